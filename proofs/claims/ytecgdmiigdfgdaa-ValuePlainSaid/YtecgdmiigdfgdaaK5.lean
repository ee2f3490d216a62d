/- Contracts of functions that the law reaches, and plain laws. Conditions: those that each contract states. -/
import Derived.Test.YtecgdmiigdfgdaaK4
set_option linter.unusedSimpArgs false
set_option linter.unusedVariables false
set_option maxHeartbeats 2000000
namespace Go.Am.Ty
open Go.Proofs Go.Rose Go.Rose.Rose
open Enc (enc dec)
def con4 {A B C E R : Type} [Enc A] [Enc B] [Enc C] [Enc E] [Enc R] (p : A → B → C → E → Prop) (f : A → B → C → E → R) : Con := ⟨[false, false, false, false], [false], fun c => match c with
  | [.d x, .d y, .d z, .d w] => isE A x ∧ isE B y ∧ isE C z ∧ isE E w ∧ p (dec x) (dec y) (dec z) (dec w)
  | _ => False, fun c => match c with
  | [.d x, .d y, .d z, .d w] => .d (enc (f (dec x) (dec y) (dec z) (dec w)))
  | _ => .d .nilp⟩
def con4t {A B C E R S : Type} [Enc A] [Enc B] [Enc C] [Enc E] [Enc R] [Enc S] (p : A → B → C → E → Prop) (f : A → B → C → E → R × S) : Con := ⟨[false, false, false, false], [false, false], fun c => match c with
  | [.d x, .d y, .d z, .d w] => isE A x ∧ isE B y ∧ isE C z ∧ isE E w ∧ p (dec x) (dec y) (dec z) (dec w)
  | _ => False, fun c => match c with
  | [.d x, .d y, .d z, .d w] => .tup [.d (enc (f (dec x) (dec y) (dec z) (dec w)).1), .d (enc (f (dec x) (dec y) (dec z) (dec w)).2)]
  | _ => .d .nilp⟩
section
variable {A B C E R S : Type} [Enc A] [Enc B] [Enc C] [Enc E] [Enc R] [Enc S]
theorem con4_pre {p : A → B → C → E → Prop} {f : A → B → C → E → R} {c : List CV} (h : (con4 p f).pre c) : ∃ a b d e, c = [.d (enc a), .d (enc b), .d (enc d), .d (enc e)] ∧ p a b d e := by
  unfold con4 at h
  simp only at h
  split at h
  · next x y z w => exact ⟨dec x, dec y, dec z, dec w, by rw [← h.1, ← h.2.1, ← h.2.2.1, ← h.2.2.2.1], h.2.2.2.2⟩
  · exact h.elim
theorem Od {p : A → B → C → E → Prop} {f : A → B → C → E → R × S} {c : List CV} (h : (con4t p f).pre c) : ∃ a b d e, c = [.d (enc a), .d (enc b), .d (enc d), .d (enc e)] ∧ p a b d e := by
  unfold con4t at h
  simp only at h
  split at h
  · next x y z w => exact ⟨dec x, dec y, dec z, dec w, by rw [← h.1, ← h.2.1, ← h.2.2.1, ← h.2.2.2.1], h.2.2.2.2⟩
  · exact h.elim
end
def con_concatN : Con := con1w (fun (l : Sl (Sl Node)) => l.l.length ≤ 1000000000 ∧ (flat l.l).length ≤ 1000000000) (fun l => flat l.l)
noncomputable def ctx_concatN : Ctx := ⟨tab, lkC [(120, con_growN)], 60, lkB [], [], false⟩
theorem M5 : ctx_concatN.τ = tab := rfl
theorem ctx_concatN_c : ctx_concatN.Γ = lkC [(120, con_growN)] := rfl
theorem ctx_concatN_d : ctx_concatN.dp = 60 := rfl
theorem ctx_concatN_b : ctx_concatN.Δ = lkB [] := rfl
theorem Ey : ctx_concatN.wr = false := rfl
set_option maxRecDepth 100000 in
theorem good_concatN : Good Try.prog (107, con_concatN) := by
  refine ⟨U0 Try.func107 (by kernel_rfl) rfl, ?_⟩
  have K : CtxOk Try.prog ctx_concatN := U4 Ki Ka (by
    intro p hp
    simp only [List.mem_cons, List.not_mem_nil, or_false] at hp
    rcases hp with rfl
    · exact good_growN) (by simp)
  obtain ⟨c, hc⟩ : ∃ c, Try.f107.body = some c := ⟨_, rfl⟩
  refine U5 K Try.func107 hc [.tmp 2] rfl 36 rfl (fun cvs hpre => ?_)
  change con_concatN.pre cvs at hpre
  unfold con_concatN at hpre
  obtain ⟨⟨l⟩, rfl, hl, hf⟩ := Ts hpre
  simp only at hl hf
  clear hpre
  simp only [Try.f107, Option.some.injEq] at hc
  subst hc
  refine Kl 2 (of_decide_eq_true (by kernel_rfl)) ?_
  (sym =>
   simp [con1w.eq_def,szN,M5,con_concatN.eq_def,Zb,Zc,Ze,Zf,Zn,Zo,Z6,Qq,Qs,Q1,Q2,Q4,Jw,J2,J3,J4,J5,J7,Xa,Xm,Xn,X2,X4,X6,X7,Wa,Wd,Wf,Wg,Wh,Wr,Ws,Wt,Wu,Ww,Wy,W4,W5,W8,W9,Yy,Yz,Y4,Y5,Y6,Y9,Va,Vb,Vc,Vd,Ve,Vh,Vr,Vs,V4,V7,Uj,Um,U3,Kb,K7]
   tactic =>
    try simp only [Uy] at *
    try simp only [nc2] at *
    try simp (maxSteps := 4000000) only [con1w.eq_def,szN,U1]
    refine Ke [5, 12, 13, 14, 15, 16, 17, 18, 19, 20, 21, 22] (fun k : Nat => [(3, .d (.int .i64 ((flat (l.take k)).length : Nat))), (11, .d (.int .i64 k))]) (fun k : Nat => []) (fun k : Nat => k ≤ l.length) (fun k : Nat => l.length - k) 0 ?_ ?_ ?_
    · simp
    · ((try simp only [Uz, killAll, setSlots, updAll, upd, U9, setCs, putC, Nat.reduceDiv, Nat.reduceMod, Nat.reduceMul, Nat.reduceAdd, Nat.reduceEqDiff, List.set_cons_zero, List.set_cons_succ, if_true, if_false, reduceIte]); (first | refine Wk.of_fl ?_ | skip); simp only [Wk, wkK, wkCs, wkT, wk1, AV.kept, keptAll, wkO, lk, wkObj, and_true, true_and, and_self, Nat.reduceEqDiff, Nat.reduceLeDiff, if_true, if_false, reduceIte, reduceCtorEq, Option.isSome, false_implies]; try simp [Wk, wkK, wkT, wk1, AV.kept, keptAll, wkO, lk, wkObj, Ae])
    rintro k hk
    rcases Kf k l.length with ⟨hlt, hlb⟩ | ⟨hlt, hlb⟩
    · have q1 := U8 (⟨[]⟩ : Sl Node) hlt
      have h1 := D9 hlt
      have h2 := Pw l (k + 1)
      obtain ⟨⟨x⟩, hx⟩ : ∃ x, l.getD k ⟨[]⟩ = x := ⟨_, rfl⟩
      rw [hx] at q1 h1
      have h3 : (flat (l.take (k + 1))).length = (flat (l.take k)).length + x.length := by rw [h1, List.length_append]
      have hnn : ltB ((flat (l.take k)).length + x.length : Int) 0 = false := by rw [Gn]; omega
      (sym =>
       simp [hlb,q1,hnn,con1w.eq_def,szN,M5,Ey,Zb,Zc,Ze,Zf,Zg,Zo,Zp,Zq,Zv,Zy,Z6,Qb,Qd,Qq,Qs,Q1,Q2,Q4,Jx,Jy,Jz,J4,J5,J7,J8,Xa,Xb,X1,X2,X4,X5,X6,Wa,Wd,Wf,Wg,Wh,Wr,Ws,Wt,Wu,W8,W9,Yb,Yc,Yg,Yk,Yy,Yz,Y1,Y4,Y5,Y6,Vp,Vr,Vs,V4,Uh,Ui,Uj,Uk,Ul,Um,U2,U3,Kb,K7]
       tactic =>
        try simp only [Uy] at *
        try simp only [nc2] at *
        try simp (maxSteps := 4000000) only [hlb,q1,hnn,con1w.eq_def,szN,U1]
        repeat' (first | with_reducible assumption | with_reducible refine And.intro ?_ ?_ | intro _ | omega | (rw [Ux]; omega))
        all_goals first
          | exact ⟨k + 1, by rw [h3]; ((try simp only [Uz, killAll, setSlots, updAll, upd, U9, setCs, putC, Nat.reduceDiv, Nat.reduceMod, Nat.reduceMul, Nat.reduceAdd, Nat.reduceEqDiff, List.set_cons_zero, List.set_cons_succ, if_true, if_false, reduceIte]); (first | refine Wk.of_fl ?_ | skip); simp only [Wk, wkK, wkCs, wkT, wk1, AV.kept, keptAll, wkO, lk, wkObj, and_true, true_and, and_self, Nat.reduceEqDiff, Nat.reduceLeDiff, if_true, if_false, reduceIte, reduceCtorEq, Option.isSome, false_implies]; try simp [Wk, wkK, wkT, wk1, AV.kept, keptAll, wkO, lk, wkObj]), by omega, by omega⟩
          | omega)
    · have hkl : k = l.length := by omega
      subst hkl
      rw [List.take_length]
      (sym =>
       simp [hlb,con_growN.eq_def,con1w.eq_def,szN,M5,ctx_concatN_c,ctx_concatN_d,ctx_concatN_b,con_growN.eq_def,Zb,Zc,Ze,Zf,Zg,Zn,Zo,Z6,Z9,Qb,Qd,Qe,Qf,Qq,Qs,Q1,Q2,Q4,Q8,Jf,Jh,Ji,Jj,Jl,Jx,Jy,Jz,J4,J5,J7,J8,Xa,Xb,Xe,X2,X4,X5,X6,X7,X8,Wa,Wd,Wf,Wg,Wh,Wr,Ws,Wt,Wu,Wv,Wx,Wy,W5,W8,W9,Yb,Yc,Yg,Yy,Yz,Y4,Y5,Y6,Vr,Vs,V4,V7,Ui,Uj,Uk,Ul,Um,U2,U3,Kb,K7]
       tactic =>
        try simp only [Uy] at *
        try simp only [nc2] at *
        try simp (maxSteps := 4000000) only [hlb,con_growN.eq_def,con1w.eq_def,szN,U1]
        repeat' (first | with_reducible assumption | with_reducible refine And.intro ?_ ?_ | intro _ | omega | (rw [Ux]; omega))
        refine Ke [8, 28, 29, 30, 31, 32, 33, 34] (fun k : Nat => [(6, .sl 24 ((flat (l.take k)).map (enc : Node → D)).length), (27, .d (.int .i64 k))]) (fun k : Nat => [(24, .row 3 ((flat (l.take k)).map enc) 0)]) (fun k : Nat => k ≤ l.length) (fun k : Nat => l.length - k) 0 ?_ ?_ ?_
        · simp
        · ((try simp only [Uz, killAll, setSlots, updAll, upd, U9, setCs, putC, Nat.reduceDiv, Nat.reduceMod, Nat.reduceMul, Nat.reduceAdd, Nat.reduceEqDiff, List.set_cons_zero, List.set_cons_succ, if_true, if_false, reduceIte]); (first | refine Wk.of_fl ?_ | skip); simp only [Wk, wkK, wkCs, wkT, wk1, AV.kept, keptAll, wkO, lk, wkObj, and_true, true_and, and_self, Nat.reduceEqDiff, Nat.reduceLeDiff, if_true, if_false, reduceIte, reduceCtorEq, Option.isSome, false_implies]; try simp [Wk, wkK, wkT, wk1, AV.kept, keptAll, wkO, lk, wkObj, Ae])
        rintro k hk
        rcases Kf k l.length with ⟨hlt, hlb⟩ | ⟨hlt, hlb⟩
        · have q1 := U8 (⟨[]⟩ : Sl Node) hlt
          have h1 := D9 hlt
          have h2 := Pw l (k + 1)
          obtain ⟨⟨x⟩, hx⟩ : ∃ x, l.getD k ⟨[]⟩ = x := ⟨_, rfl⟩
          rw [hx] at q1 h1
          have h3 : (flat (l.take (k + 1))).length = (flat (l.take k)).length + x.length := by rw [h1, List.length_append]
          (sym =>
           simp [hlb,q1,con1w.eq_def,szN,M5,Ey,Zb,Zc,Ze,Zf,Zg,Zo,Zp,Zq,Zv,Zy,Z4,Z5,Qb,Qd,Qq,Qs,Q1,Q2,Q4,Jh,Ji,Jx,Jy,Jz,J4,J5,J6,J7,J8,J9,Xa,Xb,X1,X2,X4,X5,X6,Wa,Wd,Wf,Wg,Wh,Wi,Wr,Ws,Wt,Wu,W8,W9,Yb,Yc,Yg,Yk,Yy,Yz,Y1,Y4,Y5,Y6,Y7,Y8,Vp,Vr,Vs,V4,Uh,Uj,Uk,Ul,Um,U2,U3,Kb,K7]
           tactic =>
            try simp only [Uy] at *
            try simp only [nc2] at *
            try simp (maxSteps := 4000000) only [hlb,q1,con1w.eq_def,szN,U1]
            repeat' (first | with_reducible assumption | with_reducible refine And.intro ?_ ?_ | intro _ | omega | (rw [Ux]; omega))
            all_goals first
              | omega
              | skip
            refine ⟨k + 1, ?_, by omega, by omega⟩
            ((try simp only [Uz, killAll, setSlots, updAll, upd, U9, setCs, putC, Nat.reduceDiv, Nat.reduceMod, Nat.reduceMul, Nat.reduceAdd, Nat.reduceEqDiff, List.set_cons_zero, List.set_cons_succ, if_true, if_false, reduceIte]); (first | refine Wk.of_fl ?_ | skip); simp only [Wk, wkK, wkCs, wkT, wk1, AV.kept, keptAll, wkO, lk, wkObj, and_true, true_and, and_self, Nat.reduceEqDiff, Nat.reduceLeDiff, if_true, if_false, reduceIte, reduceCtorEq, Option.isSome, false_implies]; try simp [Wk, wkK, wkT, wk1, AV.kept, keptAll, wkO, lk, wkObj, h1, List.map_append, List.length_append]))
        · have hkl : k = l.length := by omega
          subst hkl
          rw [List.take_length]
          (sym =>
           simp [hlb,con1w.eq_def,szN,M5,Zb,Zc,Ze,Zf,Zg,Qb,Qd,Qn,Qo,Qp,Qq,Qs,Q1,Q2,Q4,Q8,Jh,Ji,Jk,Jx,Jy,Jz,J4,J5,J6,J7,J8,J9,Xa,Xb,X2,X4,X5,X8,X9,Wa,Wd,Wf,Wg,Wr,Ws,Wt,Wu,W8,W9,Yb,Yc,Yg,Y5,Y6,Y7,Y8,Vr,Ui,Uj,Uk,Um,U2])))
theorem flat3 {α : Type} (a b d : List α) : flat [⟨a⟩, ⟨b⟩, ⟨d⟩] = a ++ (b ++ d) := by simp [flat]
def con_ArrowT : Con := con2 (fun (a b : Sl Node) => a.l.length ≤ 1000000 ∧ b.l.length ≤ 1000000) (fun a b => Sl.mk (arrow3 a.l b.l))
noncomputable def ctx_ArrowT : Ctx := ⟨tab, lkC [(107, con_concatN)], 60, lkB [], [], false⟩
theorem ctx_ArrowT_t : ctx_ArrowT.τ = tab := rfl
theorem ctx_ArrowT_c : ctx_ArrowT.Γ = lkC [(107, con_concatN)] := rfl
theorem ctx_ArrowT_d : ctx_ArrowT.dp = 60 := rfl
theorem ctx_ArrowT_b : ctx_ArrowT.Δ = lkB [] := rfl
set_option maxRecDepth 100000 in
theorem good_ArrowT : Good Try.prog (92, con_ArrowT) := by
  refine ⟨U0 Try.func92 (by kernel_rfl) rfl, ?_⟩
  have K : CtxOk Try.prog ctx_ArrowT := U4 Ki Ka (by
    intro p hp
    simp only [List.mem_cons, List.not_mem_nil, or_false] at hp
    rcases hp with rfl
    · exact good_concatN) (by simp)
  obtain ⟨c, hc⟩ : ∃ c, Try.f92.body = some c := ⟨_, rfl⟩
  refine U5 K Try.func92 hc [.tmp 4] rfl 11 rfl (fun cvs hpre => ?_)
  change con_ArrowT.pre cvs at hpre
  unfold con_ArrowT at hpre
  obtain ⟨⟨a⟩, ⟨b⟩, rfl, ha, hb⟩ := Kj hpre
  simp only at ha hb
  have h3 : flat [(⟨[⟨5, [], 0⟩]⟩ : Sl Node), ⟨a⟩, ⟨b⟩] = arrow3 a b := by rw [flat3]; rfl
  have hl : (arrow3 a b).length ≤ 1000000000 := by rw [arrow3_len]; omega
  simp only [Try.f92, Option.some.injEq] at hc
  subst hc
  (sym =>
   simp [con1w.eq_def,h3,Ur,Up,Us,Uo,szN,Uq,ctx_ArrowT_t,ctx_ArrowT_c,ctx_ArrowT_d,ctx_ArrowT_b,con_ArrowT.eq_def,con_concatN.eq_def,Za,Zb,Zc,Ze,Zf,Zn,Zo,Zr,Z1,Z2,Z9,Qe,Qf,Qh,Ql,Qn,Qo,Qp,Qq,Qs,Q1,Q2,Q4,Q7,Q8,Ja,Jb,Jc,Jd,Je,Jf,Jg,Jh,Ji,Jj,Jk,Jl,Jw,J2,J3,Xc,Xd,Xe,Xg,Xr,Xu,X2,X4,X9,Wa,Wd,Wf,Wg,Wh,Wj,Wl,Wr,Ws,Wt,Wu,Wv,Ww,Wx,Wy,Wz,W0,W3,W4,W5,W6,Yl,Yn,Yo,Y0,Y5,Y6,Y7,Y8,Y9,Va,Vh,Vi,Vs,V3,V4,V7,V9,Ua,Uj,Uk,Ul,Um,U3,Kb,K7]
   tactic =>
    try simp only [Uy] at *
    try simp only [nc2] at *
    try simp (maxSteps := 4000000) only [con1w.eq_def,h3,Ur,Up,Us,Uo,szN,Uq,U1]
    repeat' (first | with_reducible assumption | with_reducible refine And.intro ?_ ?_ | intro _ | omega | (rw [Ux]; omega)))
def con_dynV : Con := con0 (Sl.mk [n0])
noncomputable def ctx_dynV : Ctx := ⟨tab, lkC [], 60, lkB [], [], false⟩
theorem ctx_dynV_t : ctx_dynV.τ = tab := rfl
theorem ctx_dynV_d : ctx_dynV.dp = 60 := rfl
theorem good_dynV : Good Try.prog (93, con_dynV) := by
  refine ⟨U0 Try.func93 (by kernel_rfl) rfl, ?_⟩
  have K : CtxOk Try.prog ctx_dynV := U4 Ki Ka (by simp) (by simp)
  obtain ⟨c, hc⟩ : ∃ c, Try.f93.body = some c := ⟨_, rfl⟩
  refine U5 K Try.func93 hc [.tmp 0] rfl 3 rfl (fun cvs hpre => ?_)
  change con_dynV.pre cvs at hpre
  unfold con_dynV at hpre
  obtain rfl := con0_pre hpre
  simp only [Try.f93, Option.some.injEq] at hc
  subst hc
  (sym =>
   simp [Ur,Up,Us,Uo,szN,Uq,ctx_dynV_t,ctx_dynV_d,con_dynV.eq_def,Za,Zb,Zc,Ze,Zf,Zn,Zo,Zr,Z1,Z2,Qh,Ql,Qn,Qo,Qp,Qq,Qs,Q1,Q2,Q4,Q7,Q8,Ja,Jb,Jc,Jd,Je,Jg,Jh,Ji,Jk,Jw,J2,J3,Xc,Xd,Xe,Xg,Xr,Xs,X2,X4,X9,Wa,Wd,Wf,Wg,Wh,Wj,Wl,Wr,Ws,Wt,Wu,Ww,Wy,Wz,W0,W3,W4,W5,Yo,Y5,Y6,Y7,Y8,Va,V3,V7,V9,Uj,Uk,U3,Kb]
   tactic =>
    try simp only [Uy] at *
    try simp only [nc2] at *
    try simp (maxSteps := 4000000) only [Ur,Up,Us,Uo,szN,Uq,U1]
    repeat' (first | with_reducible assumption | with_reducible refine And.intro ?_ ?_ | intro _ | omega | (rw [Ux]; omega)))
def con_dynamicV : Con := con0 (Sl.mk (arrow3 [n0] [n0]))
noncomputable def ctx_dynamicV : Ctx := ⟨tab, lkC [(93, con_dynV), (92, con_ArrowT)], 60, lkB [], [], false⟩
theorem ctx_dynamicV_t : ctx_dynamicV.τ = tab := rfl
theorem ctx_dynamicV_c : ctx_dynamicV.Γ = lkC [(93, con_dynV), (92, con_ArrowT)] := rfl
theorem ctx_dynamicV_d : ctx_dynamicV.dp = 60 := rfl
theorem ctx_dynamicV_b : ctx_dynamicV.Δ = lkB [] := rfl
theorem Eu : Good Try.prog (62, con_dynamicV) := by
  refine ⟨U0 Try.func62 (by kernel_rfl) rfl, ?_⟩
  have K : CtxOk Try.prog ctx_dynamicV := U4 Ki Ka (by
    intro p hp
    simp only [List.mem_cons, List.not_mem_nil, or_false] at hp
    rcases hp with rfl | rfl
    · exact good_dynV
    · exact good_ArrowT) (by simp)
  obtain ⟨c, hc⟩ : ∃ c, Try.f62.body = some c := ⟨_, rfl⟩
  refine U5 K Try.func62 hc [.tmp 0] rfl 4 rfl (fun cvs hpre => ?_)
  change con_dynamicV.pre cvs at hpre
  unfold con_dynamicV at hpre
  obtain rfl := con0_pre hpre
  simp only [Try.f62, Option.some.injEq] at hc
  subst hc
  (sym =>
   simp [Ur,Up,Us,Uo,szN,Uq,ctx_dynamicV_t,ctx_dynamicV_c,ctx_dynamicV_d,ctx_dynamicV_b,con_ArrowT.eq_def,con_dynV.eq_def,con_dynamicV.eq_def,Za,Zb,Zc,Ze,Zf,Zn,Z9,Qe,Qf,Qn,Qo,Qp,Qq,Qs,Q1,Q2,Q4,Q8,Jf,Jj,Jk,Jl,Jw,J2,J3,Xe,Xs,Xu,X2,X4,X9,Wa,Wd,Wf,Wr,Ws,Wt,Wu,Wv,Ww,Wx,Wy,W4,W5,Y5,Y6,Y7,Y8,Va,Vh,Vm,Vs,V7,Uk])
def isFunB (n : VNode) : Bool := n.kind == 6 || n.kind == 7
def con_isFunV : Con := con1 (fun (v : Sl VNode) => 0 < v.l.length) (fun v => isFunB (v.l.getD 0 v0))
noncomputable def ctx_isFunV : Ctx := ⟨tab, lkC [], 60, lkB [], [], false⟩
theorem ctx_isFunV_t : ctx_isFunV.τ = tab := rfl
theorem ctx_isFunV_d : ctx_isFunV.dp = 60 := rfl
theorem O0 : Good Try.prog (66, con_isFunV) := by
  refine ⟨U0 Try.func66 (by kernel_rfl) rfl, ?_⟩
  have K : CtxOk Try.prog ctx_isFunV := U4 Ki Ka (by simp) (by simp)
  obtain ⟨c, hc⟩ : ∃ c, Try.f66.body = some c := ⟨_, rfl⟩
  refine U5 K Try.func66 hc [.tmp 2] rfl 15 rfl (fun cvs hpre => ?_)
  change con_isFunV.pre cvs at hpre
  unfold con_isFunV at hpre
  obtain ⟨⟨v⟩, rfl, hv⟩ := K1 hpre
  simp only at hv
  have hel := U8 v0 hv
  obtain ⟨p, hp⟩ : ∃ p, v.getD 0 v0 = p := ⟨_, rfl⟩
  rw [hp] at hel
  simp only [Try.f66, Option.some.injEq] at hc
  subst hc
  (sym =>
   simp [hel,hp,Ut,Uw,Uv,Uu,szV,ctx_isFunV_t,ctx_isFunV_d,con_isFunV.eq_def,Za,Zb,Zc,Zd,Ze,Zf,Zo,Zp,Zq,Zs,Zt,Zv,Zx,Zy,Qb,Qd,Qn,Qo,Qp,Qq,Qs,Q1,Q2,Q4,Q8,Jk,Jw,J2,J3,Xe,Xt,X2,X4,X9,Wa,Wd,Wf,Wg,Wh,Wr,Ws,Wt,Wu,Ww,Wy,W4,W5,W6,W7,Yc,Yg,Yk,Yr,Yu,Yw,Yy,Yz,Y5,Y6,Y7,Y8,Y9,Va,Vh,Vq,Vs,V4,V5,Uh,Ui,Uj,Uk,Um,U2,Kc,Kd]
   tactic =>
    try simp only [Uy] at *
    try simp only [nc2] at *
    try simp (maxSteps := 4000000) only [hel,hp,Ut,Uw,Uv,Uu,szV,U1]
    unfold isFunB
    repeat' (first | with_reducible assumption | with_reducible refine And.intro ?_ ?_ | intro _ | omega | (rw [Ux]; omega))
    all_goals simp_all)
def isBaseB (n : VNode) (k : Int) : Bool := cond (n.kind == 0) (k == 1) (cond (n.kind == 1) (k == 2) (cond (n.kind == 2) (k == 3) (cond (n.kind == 3) (k == 4) false)))
def con_isBaseV : Con := con2 (fun (v : Sl VNode) (_ : Int) => 0 < v.l.length) (fun v k => isBaseB (v.l.getD 0 v0) k)
noncomputable def ctx_isBaseV : Ctx := ⟨tab, lkC [], 60, lkB [], [], false⟩
theorem ctx_isBaseV_t : ctx_isBaseV.τ = tab := rfl
theorem ctx_isBaseV_d : ctx_isBaseV.dp = 60 := rfl
theorem R4 : Good Try.prog (63, con_isBaseV) := by
  refine ⟨U0 Try.func63 (by kernel_rfl) rfl, ?_⟩
  have K : CtxOk Try.prog ctx_isBaseV := U4 Ki Ka (by simp) (by simp)
  obtain ⟨c, hc⟩ : ∃ c, Try.f63.body = some c := ⟨_, rfl⟩
  refine U5 K Try.func63 hc [.tmp 4] rfl 25 rfl (fun cvs hpre => ?_)
  change con_isBaseV.pre cvs at hpre
  unfold con_isBaseV at hpre
  obtain ⟨⟨v⟩, k, rfl, hv⟩ := Kj hpre
  simp only at hv
  have hel := U8 v0 hv
  obtain ⟨p, hp⟩ : ∃ p, v.getD 0 v0 = p := ⟨_, rfl⟩
  rw [hp] at hel
  simp only [Try.f63, Option.some.injEq] at hc
  subst hc
  (sym =>
   simp [hel,hp,Ut,Uw,Uv,Uu,szV,ctx_isBaseV_t,ctx_isBaseV_d,con_isBaseV.eq_def,Za,Zb,Zc,Ze,Zf,Zg,Zo,Zp,Zq,Zs,Zv,Zx,Zy,Qb,Qd,Qn,Qo,Qp,Qq,Qs,Q1,Q2,Q4,Q8,Jk,Jw,J2,J3,Xe,Xu,X1,X2,X4,X5,X6,X9,Wa,Wd,Wf,Wg,Wh,Wr,Ws,Wt,Wu,Ww,Wy,W4,W5,W6,Yc,Yg,Yk,Yr,Yu,Yv,Yw,Yy,Yz,Y5,Y6,Y7,Y8,Y9,Va,Vf,Vh,Vq,Vs,V4,V5,Uj,Uk,Um,U2,Kc,Kd]
   tactic =>
    try simp only [Uy] at *
    try simp only [nc2] at *
    try simp (maxSteps := 4000000) only [hel,hp,Ut,Uw,Uv,Uu,szV,U1]
    unfold isBaseB
    repeat' (first | with_reducible assumption | with_reducible refine And.intro ?_ ?_ | intro _ | omega | (rw [Ux]; omega))
    all_goals simp_all)
end Go.Am.Ty
set_option linter.unusedSimpArgs false
set_option linter.unusedVariables false
set_option maxHeartbeats 2000000
namespace Go.Am.Ty
open Go.Proofs Go.Rose Go.Rose.Rose
open Enc (enc dec)
def con_cloneV : Con := con1w (fun (v : Sl VNode) => v.l ≠ [] ∧ v.l.length ≤ 1000000000) (fun v => v.l)
noncomputable def ctx_cloneV : Ctx := ⟨tab, lkC [], 60, lkB [], [], false⟩
theorem ctx_cloneV_t : ctx_cloneV.τ = tab := rfl
set_option maxRecDepth 100000 in
theorem good_cloneV : Good Try.prog (111, con_cloneV) := by
  refine ⟨U0 Try.func111 (by kernel_rfl) rfl, ?_⟩
  have K : CtxOk Try.prog ctx_cloneV := U4 Ki Ka (by simp) (by simp)
  obtain ⟨c, hc⟩ : ∃ c, Try.f111.body = some c := ⟨_, rfl⟩
  refine U5 K Try.func111 hc [.tmp 2] rfl 8 rfl (fun cvs hpre => ?_)
  change con_cloneV.pre cvs at hpre
  unfold con_cloneV at hpre
  obtain ⟨⟨t⟩, rfl, hn, ht⟩ := Ts hpre
  simp only at hn ht
  simp only [Try.f111, Option.some.injEq] at hc
  subst hc
  have hm : t.map (enc : VNode → D) ≠ [] := by simpa using hn
  (sym =>
   simp [con1w.eq_def,Iu,hm,szV,ctx_cloneV_t,con_cloneV.eq_def,Za,Zb,Zc,Ze,Zf,Zn,Zo,Zr,Z1,Z4,Z5,Qb,Qd,Qn,Qo,Qp,Qq,Qs,Q1,Q2,Q4,Q8,Jb,Jc,Jd,Je,Jg,Jh,Ji,Jk,Jw,J2,J3,Xc,X1,X2,X4,X5,X9,Wa,Wd,Wf,Wg,Wh,Wi,Wl,Wr,Ws,Wt,Wu,Ww,Wy,Wz,W3,W4,W5,Yy,Yz,Y5,Y6,Y7,Y8,Y9,Va,Vh,Vs,V7,Ui,Uj,Uk,Um,Kc,Kd]
   tactic =>
    try simp only [Uy] at *
    try simp only [nc2] at *
    try simp (maxSteps := 4000000) only [con1w.eq_def,Iu,hm,szV,U1]
    repeat' (first | with_reducible assumption | with_reducible refine And.intro ?_ ?_ | intro _ | omega | (rw [Ux]; omega))
    all_goals simp_all)
def bareR (t : List Node) (k : Nat) : List Node := (t.take k).map norm ++ t.drop k
theorem bareR_len {t : List Node} {k : Nat} : (bareR t k).length = t.length := by unfold bareR; simp; omega
theorem bareR_at {t : List Node} {k : Nat} (h : k < t.length) : (bareR t k).getD k n0 = t.getD k n0 := by
  unfold bareR
  rw [List.getD_eq_getElem?_getD, List.getElem?_append_right (by simp; omega), List.length_map, List.length_take, show k - min k t.length = 0 by omega]
  simp [h]
theorem bareR_set {t : List Node} {k : Nat} (h : k < t.length) : (bareR t k).set k (norm (t.getD k n0)) = bareR t (k + 1) := by
  unfold bareR
  rw [List.set_append_right _ _ (by simp; omega), List.length_map, List.length_take, show k - min k t.length = 0 by omega, List.drop_eq_getElem_cons h, List.set_cons_zero, List.take_succ_eq_append_getElem h, List.map_append, List.append_assoc]
  simp [h]
theorem norm_not {n : Node} (h : (n.kind == 0) = false) : norm n = n := by
  unfold norm
  rw [if_neg (by simpa using h)]
theorem norm_dyn0 {n : Node} (h : (n.kind == 0) = true) : norm n = ⟨n.kind, n.name, 0⟩ := by
  unfold norm
  rw [if_pos (by simpa using h)]
def con_bareV : Con := con1 (fun (t : Sl Node) => t.l ≠ [] ∧ t.l.length ≤ 1000000) (fun t => Sl.mk (t.l.map norm))
noncomputable def ctx_bareV : Ctx := ⟨tab, lkC [(81, con_cloneNodes)], 60, lkB [], [], false⟩
theorem S3 : ctx_bareV.τ = tab := rfl
theorem ctx_bareV_c : ctx_bareV.Γ = lkC [(81, con_cloneNodes)] := rfl
theorem Dj : ctx_bareV.dp = 60 := rfl
theorem ctx_bareV_b : ctx_bareV.Δ = lkB [] := rfl
theorem ctx_bareV_w : ctx_bareV.wr = false := rfl
set_option maxRecDepth 100000 in
theorem good_bareV : Good Try.prog (112, con_bareV) := by
  refine ⟨U0 Try.func112 (by kernel_rfl) rfl, ?_⟩
  have K : CtxOk Try.prog ctx_bareV := U4 Ki Ka (by
    intro p hp
    simp only [List.mem_cons, List.not_mem_nil, or_false] at hp
    rcases hp with rfl
    · exact Cw) (by simp)
  obtain ⟨c, hc⟩ : ∃ c, Try.f112.body = some c := ⟨_, rfl⟩
  refine U5 K Try.func112 hc [.tmp 2] rfl 24 rfl (fun cvs hpre => ?_)
  change con_bareV.pre cvs at hpre
  unfold con_bareV at hpre
  obtain ⟨⟨t⟩, rfl, hn, ht⟩ := K1 hpre
  simp only at hn ht
  simp only [Try.f112, Option.some.injEq] at hc
  subst hc
  (sym =>
   simp [con1w.eq_def,Ur,Up,Us,Uo,szN,Uq,S3,ctx_bareV_c,Dj,ctx_bareV_b,con_bareV.eq_def,con_cloneNodes.eq_def,Za,Zb,Zc,Ze,Zf,Zn,Zo,Z6,Z9,Qe,Qf,Qq,Qs,Q1,Q2,Q4,Q8,Jf,Jh,Ji,Jj,Jl,Jw,J2,J3,Xe,Xt,X2,X4,X6,X7,Wa,Wd,Wf,Wg,Wh,Wr,Ws,Wt,Wu,Wv,Ww,Wx,Wy,W4,W5,Y5,Y6,Y7,Y8,Y9,Va,Vh,Vm,Vs,V4,V7,Uj,Uk,Ul,Um,U3,Kb]
   tactic =>
    try simp only [Uy] at *
    try simp only [nc2] at *
    try simp (maxSteps := 4000000) only [con1w.eq_def,Ur,Up,Us,Uo,szN,Uq,U1]
    repeat' (first | with_reducible assumption | with_reducible refine And.intro ?_ ?_ | intro _ | omega | (rw [Ux]; omega))
    refine Ke [4, 5, 11, 12, 13, 14, 15, 16, 17, 18, 19, 20, 21, 22] (fun k : Nat => [(3, .sl 7 ((bareR t k).map (enc : Node → D)).length), (8, .sl 7 ((bareR t k).map (enc : Node → D)).length), (10, .d (.int .i64 k))]) (fun k : Nat => [(7, .row 3 ((bareR t k).map enc) 0)]) (fun k : Nat => k ≤ t.length) (fun k : Nat => t.length - k) 0 ?_ ?_ ?_
    · omega
    · ((try simp only [Uz, killAll, setSlots, updAll, upd, U9, setCs, putC, Nat.reduceDiv, Nat.reduceMod, Nat.reduceMul, Nat.reduceAdd, Nat.reduceEqDiff, List.set_cons_zero, List.set_cons_succ, if_true, if_false, reduceIte]); (first | refine Wk.of_fl ?_ | skip); simp only [Wk, wkK, wkCs, wkT, wk1, AV.kept, keptAll, wkO, lk, wkObj, and_true, true_and, and_self, Nat.reduceEqDiff, Nat.reduceLeDiff, if_true, if_false, reduceIte, reduceCtorEq, Option.isSome, false_implies]; try simp [Wk, wkK, wkT, wk1, AV.kept, keptAll, wkO, lk, wkObj, bareR])
    rintro k hk
    have hlen : (bareR t k).length = t.length := bareR_len
    have hlen2 : (bareR t (k + 1)).length = t.length := bareR_len
    rcases Kf k t.length with ⟨hlt, hlb⟩ | ⟨hlt, hlb⟩
    · have q1 := U8 n0 (show k < (bareR t k).length by omega)
      have hset := bareR_set hlt
      rw [bareR_at hlt] at q1
      obtain ⟨n, hn2⟩ : ∃ n, t.getD k n0 = n := ⟨_, rfl⟩
      rw [hn2] at q1 hset
      cases h0 : (n.kind == 0) with
      | true =>
        rw [norm_dyn0 h0] at hset
        have hset2 : ((bareR t k).map (enc : Node → D)).set k (.agg [.int .i64 n.kind, .str n.name, .int .i64 0]) = (bareR t (k + 1)).map enc := by
          rw [← hset, List.map_set]
          rfl
        (sym =>
         simp [hlb,hlen,q1,h0,hset2,con1w.eq_def,Ur,Up,Us,Uo,szN,Uq,S3,Dj,ctx_bareV_w,Zb,Zc,Ze,Zf,Zg,Zo,Zp,Zq,Zs,Zu,Zv,Zw,Zx,Zy,Qb,Qd,Qk,Ql,Qm,Qq,Qs,Q1,Q2,Q4,Jh,Ji,Jx,Jy,Jz,Xe,Xo,Xp,Xr,X1,X2,X4,X5,X6,Wa,Wd,Wf,Wg,Wh,Wj,Wr,Ws,W0,W3,W4,W5,W6,W7,Yb,Yc,Yg,Yk,Yl,Yo,Yr,Y5,Y6,Y7,Y8,Va,Vc,Vd,Ve,Vp,Vr,V4,Uh,Uj,Uk,Ul,Um,Un,U2,U3,Kb]
         tactic =>
          try simp only [Uy] at *
          try simp only [nc2] at *
          try simp (maxSteps := 4000000) only [hlb,hlen,q1,h0,hset2,con1w.eq_def,Ur,Up,Us,Uo,szN,Uq,U1]
          repeat' (first | with_reducible assumption | with_reducible refine And.intro ?_ ?_ | intro _ | omega | (rw [Ux]; omega))
          all_goals first
            | omega
            | exact ⟨k + 1, by ((try simp only [Uz, killAll, setSlots, updAll, upd, U9, setCs, putC, Nat.reduceDiv, Nat.reduceMod, Nat.reduceMul, Nat.reduceAdd, Nat.reduceEqDiff, List.set_cons_zero, List.set_cons_succ, if_true, if_false, reduceIte]); (first | refine Wk.of_fl ?_ | skip); simp only [Wk, wkK, wkCs, wkT, wk1, AV.kept, keptAll, wkO, lk, wkObj, and_true, true_and, and_self, Nat.reduceEqDiff, Nat.reduceLeDiff, if_true, if_false, reduceIte, reduceCtorEq, Option.isSome, false_implies]; try simp [Wk, wkK, wkT, wk1, AV.kept, keptAll, wkO, lk, wkObj, hlen, hlen2]), by omega, by omega⟩)
      | false =>
        have hset2 : bareR t (k + 1) = bareR t k := by
          rw [← hset, norm_not h0]
          have : (bareR t k).getD k n0 = n := by rw [bareR_at hlt, hn2]
          rw [← this]
          refine List.ext_getElem (by simp) fun j h1 h2 => ?_
          rw [List.getElem_set]
          split
          · next e => subst e; simp [h2]
          · rfl
        (sym =>
         simp [hlb,hlen,q1,h0,con1w.eq_def,Ur,Up,Us,Uo,szN,Uq,S3,ctx_bareV_w,Zb,Zc,Ze,Zf,Zg,Zo,Zp,Zq,Zs,Zu,Zv,Zw,Zx,Zy,Qb,Qd,Qk,Ql,Qm,Qq,Qs,Q1,Q2,Q4,Jh,Ji,Jx,Jy,Jz,Xo,Xr,X1,X2,X4,X5,X6,Wa,Wd,Wf,Wg,Wh,Wj,Wr,Ws,W0,W3,W4,W5,W6,Yb,Yc,Yg,Yk,Yo,Y5,Y6,Y7,Y8,Va,Vc,Vd,Ve,Vp,Vr,V4,Uh,Ui,Uj,Uk,Ul,Um,Un,U2,U3,Kb]
         tactic =>
          try simp only [Uy] at *
          try simp only [nc2] at *
          try simp (maxSteps := 4000000) only [hlb,hlen,q1,h0,con1w.eq_def,Ur,Up,Us,Uo,szN,Uq,U1]
          repeat' (first | with_reducible assumption | with_reducible refine And.intro ?_ ?_ | intro _ | omega | (rw [Ux]; omega))
          all_goals first
            | omega
            | exact ⟨k + 1, by rw [hset2]; ((try simp only [Uz, killAll, setSlots, updAll, upd, U9, setCs, putC, Nat.reduceDiv, Nat.reduceMod, Nat.reduceMul, Nat.reduceAdd, Nat.reduceEqDiff, List.set_cons_zero, List.set_cons_succ, if_true, if_false, reduceIte]); (first | refine Wk.of_fl ?_ | skip); simp only [Wk, wkK, wkCs, wkT, wk1, AV.kept, keptAll, wkO, lk, wkObj, and_true, true_and, and_self, Nat.reduceEqDiff, Nat.reduceLeDiff, if_true, if_false, reduceIte, reduceCtorEq, Option.isSome, false_implies]; try simp [Wk, wkK, wkT, wk1, AV.kept, keptAll, wkO, lk, wkObj, hlen, hlen2]), by omega, by omega⟩)
    · have hkl : k = t.length := by omega
      subst hkl
      have hend : bareR t t.length = t.map norm := by unfold bareR; simp
      rw [hend] at *
      (sym =>
       simp [hlb,hlen,con1w.eq_def,Ur,Up,Us,Uo,szN,Uq,S3,Dj,Zb,Zc,Ze,Zf,Zg,Qb,Qd,Qn,Qo,Qp,Qq,Qs,Q1,Q2,Q4,Q8,Jh,Ji,Jk,Jx,Jy,Jz,Xg,X2,X4,X5,X8,X9,Wa,Wd,Wf,Wg,Wr,Ws,Yb,Yc,Yg,Y5,Y6,Y7,Y8,Vr,Ui,Uj,Uk,Um,U2]
       tactic =>
        try simp only [Uy] at *
        try simp only [nc2] at *
        try simp (maxSteps := 4000000) only [hlb,hlen,con1w.eq_def,Ur,Up,Us,Uo,szN,Uq,U1]
        all_goals rfl))
theorem flat1 {α : Type} (a : List α) : flat [⟨a⟩] = a := by simp [flat]
theorem flat2 {α : Type} (a b : List α) : flat [⟨a⟩, ⟨b⟩] = a ++ b := by simp [flat]
def con_joinedV : Con := con2 (fun (_ : VNode) (l : Sl (Sl VNode)) => l.l.length ≤ 1000000 ∧ (flat l.l).length ≤ 1000000) (fun n l => Sl.mk (n :: flat l.l))
noncomputable def ctx_joinedV : Ctx := ⟨tab, lkC [(97, con_concatV)], 60, lkB [], [], false⟩
theorem ctx_joinedV_t : ctx_joinedV.τ = tab := rfl
theorem ctx_joinedV_c : ctx_joinedV.Γ = lkC [(97, con_concatV)] := rfl
theorem ctx_joinedV_d : ctx_joinedV.dp = 60 := rfl
theorem ctx_joinedV_b : ctx_joinedV.Δ = lkB [] := rfl
theorem ctx_joinedV_w : ctx_joinedV.wr = false := rfl
set_option maxRecDepth 100000 in
theorem Cc : Good Try.prog (68, con_joinedV) := by
  refine ⟨U0 Try.func68 (by kernel_rfl) rfl, ?_⟩
  have K : CtxOk Try.prog ctx_joinedV := U4 Ki Ka (by
    intro p hp
    simp only [List.mem_cons, List.not_mem_nil, or_false] at hp
    rcases hp with rfl
    · exact good_concatV) (by simp)
  obtain ⟨c, hc⟩ : ∃ c, Try.f68.body = some c := ⟨_, rfl⟩
  refine U5 K Try.func68 hc [.tmp 4] rfl 11 rfl (fun cvs hpre => ?_)
  change con_joinedV.pre cvs at hpre
  unfold con_joinedV at hpre
  obtain ⟨n, ⟨l⟩, rfl, h1, h2⟩ := Kj hpre
  simp only at h1 h2
  have h3 : flat [(⟨[n]⟩ : Sl VNode), ⟨flat l⟩] = n :: flat l := by rw [flat2]; rfl
  simp only [Try.f68, Option.some.injEq] at hc
  subst hc
  (sym =>
   simp [con1w.eq_def,h3,Ut,Uw,Uv,Uu,szV,ctx_joinedV_t,ctx_joinedV_c,ctx_joinedV_d,ctx_joinedV_b,ctx_joinedV_w,con_concatV.eq_def,con_joinedV.eq_def,Za,Zb,Zc,Ze,Zf,Zh,Zi,Zj,Zk,Zl,Zm,Zn,Zo,Zp,Zq,Zr,Zu,Zv,Z1,Z9,Qe,Qf,Qh,Ql,Qn,Qo,Qp,Qq,Qr,Qs,Q1,Q2,Q4,Q5,Q6,Q8,Ja,Jb,Jc,Jd,Je,Jf,Jg,Jh,Ji,Jj,Jk,Jl,Jw,J2,J3,Xc,Xd,Xe,Xg,Xr,Xu,X2,X3,X4,X9,Wa,Wb,Wc,Wd,We,Wf,Wg,Wh,Wl,Wn,Wo,Wp,Wq,Wr,Ws,Wt,Wu,Wv,Ww,Wx,Wy,Wz,W0,W3,W4,W5,Yn,Yo,Y5,Y6,Y7,Y8,Y9,Va,Vb,Vc,Ve,Vh,Vi,Vj,Vm,Vs,V3,V7,V9,Ui,Uj,Uk,Ul,Um,Un,Kc,Kd,He]
   tactic =>
    try simp only [Uy] at *
    try simp only [nc2] at *
    try simp (maxSteps := 4000000) only [con1w.eq_def,h3,Ut,Uw,Uv,Uu,szV,U1]
    repeat' (first | with_reducible assumption | with_reducible refine And.intro ?_ ?_ | intro _ | omega | (rw [Ux]; omega))
    all_goals first
      | (with_reducible refine Kh ?_; kernel_rfl)
      | omega
      | skip)
end Go.Am.Ty
set_option linter.unusedSimpArgs false
set_option linter.unusedVariables false
set_option maxHeartbeats 2000000
namespace Go.Am.Ty
open Go.Proofs Go.Rose Go.Rose.Rose
open Enc (enc dec)
def relab (n : VNode) : VNode := ⟨n.kind, [], n.name, n.num, n.many, n.t, n.u⟩
def relabL : List VNode → List VNode
  | [] => []
  | n :: r => relab n :: r
theorem relabL_len {v : List VNode} : (relabL v).length = v.length := by cases v <;> rfl
theorem relabL_set {v : List VNode} {n : VNode} (h : 0 < v.length) (hn : v.getD 0 v0 = n) : (v.map (enc : VNode → D)).set 0 (.agg [.int .i64 n.kind, .str [], .str n.name, .int .i64 n.num, .int .i64 n.many, .list 3 (n.t.map enc), .list 3 (n.u.map enc)]) = (relabL v).map enc := by
  cases v with
  | nil => simp at h
  | cons a r =>
    simp only [List.getD_cons_zero] at hn
    subst hn
    rfl
def wrapL (v : List VNode) (t u : List Node) (lab : Int) : List VNode := ⟨7, (v.getD 0 v0).label, [], lab, 0, t.map norm, u.map norm⟩ :: relabL v
def TyIn (t : List Node) : Prop := t ≠ [] ∧ t.length ≤ 1000000
def VaIn (v : List VNode) : Prop := v ≠ [] ∧ v.length ≤ 1000000
theorem dec_VNodeT {a : Int} {b : List UInt8} {d : Int} {f g : List Node} : (dec (.agg [.int .i64 a, .str b, .str [], .int .i64 d, .int .i64 0, enc (Sl.mk f), enc (Sl.mk g)]) : VNode) = ⟨a, b, [], d, 0, f, g⟩ := Enc.dec_enc (VNode.mk a b [] d 0 f g)
theorem isE_VNodeT {a : Int} {b : List UInt8} {d : Int} {f g : List Node} : isE VNode (.agg [.int .i64 a, .str b, .str [], .int .i64 d, .int .i64 0, enc (Sl.mk f), enc (Sl.mk g)]) = True := eq_true (Gp (VNode.mk a b [] d 0 f g))
def con_wrappedV : Con := con4 (fun (v : Sl VNode) (t u : Sl Node) (_ : Int) => VaIn v.l ∧ TyIn t.l ∧ TyIn u.l) (fun v t u l => Sl.mk (wrapL v.l t.l u.l l))
noncomputable def ctx_wrappedV : Ctx := ⟨tab, lkC [(111, con_cloneV), (112, con_bareV), (68, con_joinedV)], 60, lkB [], [], false⟩
theorem ctx_wrappedV_t : ctx_wrappedV.τ = tab := rfl
theorem ctx_wrappedV_c : ctx_wrappedV.Γ = lkC [(111, con_cloneV), (112, con_bareV), (68, con_joinedV)] := rfl
theorem ctx_wrappedV_d : ctx_wrappedV.dp = 60 := rfl
theorem ctx_wrappedV_b : ctx_wrappedV.Δ = lkB [] := rfl
theorem ctx_wrappedV_w : ctx_wrappedV.wr = false := rfl
set_option maxRecDepth 100000 in
theorem good_wrappedV : Good Try.prog (96, con_wrappedV) := by
  refine ⟨U0 Try.func96 (by kernel_rfl) rfl, ?_⟩
  have K : CtxOk Try.prog ctx_wrappedV := U4 Ki Ka (by
    intro p hp
    simp only [List.mem_cons, List.not_mem_nil, or_false] at hp
    rcases hp with rfl | rfl | rfl
    · exact good_cloneV
    · exact good_bareV
    · exact Cc) (by simp)
  obtain ⟨c, hc⟩ : ∃ c, Try.f96.body = some c := ⟨_, rfl⟩
  refine U5 K Try.func96 hc [.tmp 8] rfl 28 rfl (fun cvs hpre => ?_)
  change con_wrappedV.pre cvs at hpre
  unfold con_wrappedV at hpre
  obtain ⟨⟨v⟩, ⟨t⟩, ⟨u⟩, lab, rfl, hV, hT, hU⟩ := con4_pre hpre
  obtain ⟨v1, v2⟩ : VaIn v := hV
  obtain ⟨t1, t2⟩ : TyIn t := hT
  obtain ⟨u1, u2⟩ : TyIn u := hU
  have hpos : 0 < v.length := List.length_pos_iff.2 v1
  have hel := U8 v0 hpos
  obtain ⟨n, hn⟩ : ∃ n, v.getD 0 v0 = n := ⟨_, rfl⟩
  rw [hn] at hel
  have hset := relabL_set hpos hn
  have hl := relabL_len (v := v)
  have hf1 : flat [(⟨relabL v⟩ : Sl VNode)] = relabL v := flat1 _
  have hw : wrapL v t u lab = ⟨7, n.label, [], lab, 0, t.map norm, u.map norm⟩ :: relabL v := by unfold wrapL; rw [hn]
  clear hpre
  simp only [Try.f96, Option.some.injEq] at hc
  subst hc
  (sym =>
   simp [con1w.eq_def,con4.eq_def,hel,hset,hl,hf1,hw,dec_VNodeT,isE_VNodeT,Ut,Uw,Uv,Uu,szV,Ur,Up,Us,Uo,szN,Uq,ctx_wrappedV_t,ctx_wrappedV_c,ctx_wrappedV_d,ctx_wrappedV_b,ctx_wrappedV_w,con_bareV.eq_def,con_cloneV.eq_def,con_joinedV.eq_def,con_wrappedV.eq_def,Za,Zb,Zc,Ze,Zf,Zh,Zi,Zj,Zk,Zl,Zm,Zn,Zo,Zp,Zq,Zr,Zs,Zv,Zw,Zx,Zy,Z1,Z2,Z9,Qe,Qf,Qh,Ql,Qn,Qo,Qp,Qq,Qr,Qs,Q1,Q2,Q4,Q5,Q6,Q7,Q8,Ja,Jb,Jc,Jd,Je,Jf,Jg,Jh,Ji,Jj,Jk,Jl,Jw,J2,J3,Xc,Xd,Xe,Xg,Xp,Xq,Xt,Xu,X2,X3,X4,X9,Wa,Wb,Wc,Wd,We,Wf,Wg,Wh,Wj,Wl,Wn,Wo,Wp,Wq,Wr,Ws,Wt,Wu,Wv,Ww,Wx,Wy,Wz,W0,W3,W4,W5,W6,W7,Yc,Yk,Yl,Ym,Yn,Ys,Yu,Yv,Yy,Yz,Y0,Y5,Y6,Y7,Y8,Y9,Va,Vf,Vh,Vi,Vj,Vm,Vq,Vs,V3,V4,V6,V7,V8,V9,Ua,Ub,Uf,Ui,Uj,Uk,Ul,Um,Un,Gr,Kc,Kd,He]
   tactic =>
    try simp only [Uy] at *
    try simp only [nc2] at *
    try simp (maxSteps := 4000000) only [con1w.eq_def,con4.eq_def,hel,hset,hl,hf1,hw,dec_VNodeT,isE_VNodeT,Ut,Uw,Uv,Uu,szV,Ur,Up,Us,Uo,szN,Uq,U1]
    repeat' (first | with_reducible assumption | with_reducible refine And.intro ?_ ?_ | intro _ | omega | (rw [Ux]; omega))
    all_goals first
      | (with_reducible refine Kh ?_; kernel_rfl)
      | omega
      | skip)
def dynL : List Node := arrow3 [n0] [n0]
def arrOr (t : List Node) : List Node := cond ((t.getD 0 n0).kind == 0) dynL t
def funL (v : List VNode) (t u : List Node) (lab : Int) : Sl VNode × Bool :=
  cond (((arrOr u).getD 0 n0).kind == 5) (cond (same3 (arrOr t) (arrOr u)) (⟨v⟩, true) (⟨wrapL v (arrOr t) (arrOr u) lab⟩, true)) (⟨[]⟩, false)
theorem dynL_d : (arrow3 [n0] [n0]) = dynL := rfl
def con_functionV : Con := con4t (fun (v : Sl VNode) (t u : Sl Node) (_ : Int) => VaIn v.l ∧ TyIn t.l ∧ TyIn u.l) (fun v t u l => funL v.l t.l u.l l)
noncomputable def ctx_functionV : Ctx := ⟨tab, lkC [(62, con_dynamicV), (59, con_SameT), (96, con_wrappedV)], 60, lkB [], [], false⟩
theorem Gy : ctx_functionV.τ = tab := rfl
theorem Hf : ctx_functionV.Γ = lkC [(62, con_dynamicV), (59, con_SameT), (96, con_wrappedV)] := rfl
theorem Gz : ctx_functionV.dp = 60 := rfl
theorem Hg : ctx_functionV.Δ = lkB [] := rfl
set_option maxRecDepth 100000 in
theorem good_functionV : Good Try.prog (67, con_functionV) := by
  refine ⟨U0 Try.func67 (by kernel_rfl) rfl, ?_⟩
  have K : CtxOk Try.prog ctx_functionV := U4 Ki Ka (by
    intro p hp
    simp only [List.mem_cons, List.not_mem_nil, or_false] at hp
    rcases hp with rfl | rfl | rfl
    · exact Eu
    · exact Sc
    · exact good_wrappedV) (by simp)
  obtain ⟨c, hc⟩ : ∃ c, Try.f67.body = some c := ⟨_, rfl⟩
  refine U5 K Try.func67 hc [.tmp 8, .tmp 9] rfl 38 rfl (fun cvs hpre => ?_)
  change con_functionV.pre cvs at hpre
  unfold con_functionV at hpre
  obtain ⟨⟨v⟩, ⟨t⟩, ⟨u⟩, lab, rfl, hV, hT, hU⟩ := Od hpre
  have hV' : VaIn v := hV
  obtain ⟨t1, t2⟩ : TyIn t := hT
  obtain ⟨u1, u2⟩ : TyIn u := hU
  have hD : TyIn dynL := ⟨by decide, by decide⟩
  have hT' : TyIn t := ⟨t1, t2⟩
  have hU' : TyIn u := ⟨u1, u2⟩
  have tp : 0 < t.length := List.length_pos_iff.2 t1
  have up : 0 < u.length := List.length_pos_iff.2 u1
  have e1 := U8 n0 tp
  have e2 := U8 n0 up
  have e3 := U8 n0 (show 0 < dynL.length by decide)
  have hd5 : ((dynL.getD 0 n0).kind == 5) = true := rfl
  have hd5n : ((dynL.getD 0 n0).kind != 5) = false := rfl
  obtain ⟨r, hr⟩ : ∃ r, funL v t u lab = r := ⟨_, rfl⟩
  have hr2 := hr
  unfold funL arrOr at hr2
  generalize hdl : dynL = dl at *
  have hDl := dynL_d
  rw [hdl] at hDl
  have hdlen : dl.length = 3 := by rw [← hdl]; rfl
  cases ht0 : ((t.getD 0 n0).kind == 0) with
  | true =>
    rw [ht0] at hr2
    cases hu0 : ((u.getD 0 n0).kind == 0) with
    | true =>
      rw [hu0] at hr2
      simp only [cond_true] at hr2
      rw [hd5] at hr2
      simp only [cond_true, L2] at hr2
      simp only [Try.f67, Option.some.injEq] at hc
      subst hc
      refine Kl 2 (of_decide_eq_true (by kernel_rfl)) ?_
      (sym =>
       simp [con4.eq_def,con4t.eq_def,e1,e2,e3,ht0,hu0,hDl,hd5n,L2,hr,Ur,Up,Us,Uo,szN,Uq,Gy,Hf,Gz,Hg,con_SameT.eq_def,con_dynamicV.eq_def,con_functionV.eq_def,con_wrappedV.eq_def,Zb,Zc,Ze,Zf,Zg,Zn,Zo,Zp,Zq,Zs,Zv,Zx,Zy,Z9,Qb,Qd,Qe,Qf,Qn,Qo,Qp,Qq,Qs,Q1,Q2,Q4,Q8,Jf,Jj,Jk,Jl,Jw,J2,J3,J4,J5,J6,J7,J8,J9,Xa,Xb,Xe,Xm,Xn,Xs,Xu,X2,X4,X5,X6,X9,Wa,Wd,Wf,Wg,Wh,Wr,Ws,Wt,Wu,Wv,Ww,Wx,Wy,W4,W5,W6,W8,W9,Yc,Yg,Yk,Yr,Yu,Yv,Yw,Yy,Yz,Y5,Y6,Y7,Y9,Va,Vb,Vc,Vd,Ve,Vf,Vh,Vm,Vq,Vr,Vs,V4,V5,V7,Uh,Ui,Uj,Uk,Ul,Um,U2,U3,Kb,Kc,Kd]
       tactic =>
        try simp only [Uy] at *
        try simp only [nc2] at *
        try simp (maxSteps := 4000000) only [con4.eq_def,con4t.eq_def,e1,e2,e3,ht0,hu0,hDl,hd5n,L2,hr,Ur,Up,Us,Uo,szN,Uq,U1]
        repeat' (first | with_reducible assumption | with_reducible refine And.intro ?_ ?_ | intro _ | omega | (rw [Ux]; omega))
        all_goals first
          | omega
          | rfl
          | (rw [← hr2]; done)
          | (rw [← hr2]; rfl)
          | skip)
    | false =>
      rw [hu0] at hr2
      simp only [cond_true, cond_false] at hr2
      cases hu5 : ((u.getD 0 n0).kind == 5) with
      | false =>
        have hu5n : ((u.getD 0 n0).kind != 5) = true := by rw [bne, hu5]; rfl
        rw [hu5, cond_false] at hr2
        simp only [Try.f67, Option.some.injEq] at hc
        subst hc
        refine Kl 2 (of_decide_eq_true (by kernel_rfl)) ?_
        (sym =>
         simp [con4.eq_def,con4t.eq_def,e1,e2,e3,ht0,hu0,hDl,hu5n,hr,Ur,Up,Us,Uo,szN,Uq,Gy,Hf,Gz,Hg,con_SameT.eq_def,con_dynamicV.eq_def,con_functionV.eq_def,con_wrappedV.eq_def,Zb,Zc,Ze,Zf,Zg,Zn,Zo,Zp,Zq,Zs,Zv,Zx,Zy,Z9,Qb,Qd,Qe,Qf,Qn,Qo,Qp,Qq,Qs,Q1,Q2,Q4,Q8,Jf,Jj,Jk,Jl,Jw,J2,J3,J4,J5,J7,J8,Xa,Xb,Xe,Xf,Xm,Xn,Xs,Xu,X1,X2,X4,X5,X6,X9,Wa,Wd,Wf,Wg,Wh,Wr,Ws,Wt,Wu,Wv,Ww,Wx,Wy,W4,W5,W6,W8,W9,Yc,Yg,Yk,Yr,Yu,Yv,Yw,Yy,Yz,Y5,Y6,Y9,Va,Vb,Vc,Vd,Ve,Vf,Vh,Vq,Vr,Vs,V4,V5,V7,Uh,Ui,Uj,Uk,Um,U2,U3,Kb,Kc,Kd]
         tactic =>
          try simp only [Uy] at *
          try simp only [nc2] at *
          try simp (maxSteps := 4000000) only [con4.eq_def,con4t.eq_def,e1,e2,e3,ht0,hu0,hDl,hu5n,hr,Ur,Up,Us,Uo,szN,Uq,U1]
          repeat' (first | with_reducible assumption | with_reducible refine And.intro ?_ ?_ | intro _ | omega | (rw [Ux]; omega))
          all_goals first
            | omega
            | rfl
            | (rw [← hr2]; done)
            | (rw [← hr2]; rfl)
            | skip)
      | true =>
        have hu5n : ((u.getD 0 n0).kind != 5) = false := by rw [bne, hu5]; rfl
        rw [hu5, cond_true] at hr2
        cases hs : same3 dl u with
        | true =>
          rw [hs, cond_true] at hr2
          simp only [Try.f67, Option.some.injEq] at hc
          subst hc
          refine Kl 2 (of_decide_eq_true (by kernel_rfl)) ?_
          (sym =>
           simp [con4.eq_def,con4t.eq_def,e1,e2,e3,ht0,hu0,hDl,hu5n,hs,hr,Ur,Up,Us,Uo,szN,Uq,Gy,Hf,Gz,Hg,con_SameT.eq_def,con_dynamicV.eq_def,con_functionV.eq_def,con_wrappedV.eq_def,Zb,Zc,Ze,Zf,Zg,Zn,Zo,Zp,Zq,Zs,Zv,Zx,Zy,Z9,Qb,Qd,Qe,Qf,Qn,Qo,Qp,Qq,Qs,Q1,Q2,Q4,Q8,Jf,Jj,Jk,Jl,Jw,J2,J3,J4,J5,J6,J7,J8,J9,Xa,Xb,Xe,Xm,Xn,Xs,Xu,X1,X2,X4,X5,X6,X9,Wa,Wd,Wf,Wg,Wh,Wr,Ws,Wt,Wu,Wv,Ww,Wx,Wy,W4,W5,W6,W8,W9,Yc,Yg,Yk,Yr,Yu,Yv,Yw,Yy,Yz,Y5,Y6,Y7,Y9,Va,Vb,Vc,Vd,Ve,Vf,Vh,Vm,Vq,Vr,Vs,V4,V5,V7,Uh,Ui,Uj,Uk,Ul,Um,U2,U3,Kb,Kc,Kd]
           tactic =>
            try simp only [Uy] at *
            try simp only [nc2] at *
            try simp (maxSteps := 4000000) only [con4.eq_def,con4t.eq_def,e1,e2,e3,ht0,hu0,hDl,hu5n,hs,hr,Ur,Up,Us,Uo,szN,Uq,U1]
            repeat' (first | with_reducible assumption | with_reducible refine And.intro ?_ ?_ | intro _ | omega | (rw [Ux]; omega))
            all_goals first
              | omega
              | rfl
              | (rw [← hr2]; done)
              | (rw [← hr2]; rfl)
              | skip)
        | false =>
          rw [hs, cond_false] at hr2
          simp only [Try.f67, Option.some.injEq] at hc
          subst hc
          refine Kl 2 (of_decide_eq_true (by kernel_rfl)) ?_
          (sym =>
           simp [con4.eq_def,con4t.eq_def,e1,e2,e3,ht0,hu0,hDl,hu5n,hs,hr,Ur,Up,Us,Uo,szN,Uq,Gy,Hf,Gz,Hg,con_SameT.eq_def,con_dynamicV.eq_def,con_functionV.eq_def,con_wrappedV.eq_def,Zb,Zc,Ze,Zf,Zg,Zn,Zo,Zp,Zq,Zs,Zv,Zx,Zy,Z9,Qb,Qd,Qe,Qf,Qn,Qo,Qp,Qq,Qs,Q1,Q2,Q4,Q8,Jf,Jj,Jk,Jl,Jw,J2,J3,J4,J5,J6,J7,J8,J9,Xa,Xb,Xe,Xm,Xn,Xs,Xu,X1,X2,X4,X5,X6,X9,Wa,Wd,Wf,Wg,Wh,Wr,Ws,Wt,Wu,Wv,Ww,Wx,Wy,W4,W5,W6,W8,W9,Yc,Yg,Yk,Yr,Yu,Yv,Yw,Yy,Yz,Y5,Y6,Y7,Y8,Y9,Va,Vb,Vc,Vd,Ve,Vf,Vh,Vk,Vm,Vq,Vr,Vs,V4,V5,V7,Uh,Ui,Uj,Uk,Ul,Um,U2,U3,Kb,Kc,Kd]
           tactic =>
            try simp only [Uy] at *
            try simp only [nc2] at *
            try simp (maxSteps := 4000000) only [con4.eq_def,con4t.eq_def,e1,e2,e3,ht0,hu0,hDl,hu5n,hs,hr,Ur,Up,Us,Uo,szN,Uq,U1]
            repeat' (first | with_reducible assumption | with_reducible refine And.intro ?_ ?_ | intro _ | omega | (rw [Ux]; omega))
            all_goals first
              | omega
              | rfl
              | (rw [← hr2]; done)
              | (rw [← hr2]; rfl)
              | skip)
  | false =>
    rw [ht0] at hr2
    cases hu0 : ((u.getD 0 n0).kind == 0) with
    | true =>
      rw [hu0] at hr2
      simp only [cond_true, cond_false] at hr2
      rw [hd5] at hr2
      simp only [cond_true] at hr2
      cases hs : same3 t dl with
      | true =>
        rw [hs, cond_true] at hr2
        simp only [Try.f67, Option.some.injEq] at hc
        subst hc
        refine Kl 2 (of_decide_eq_true (by kernel_rfl)) ?_
        (sym =>
         simp [con4.eq_def,con4t.eq_def,e1,e2,e3,ht0,hu0,hDl,hd5n,hs,hr,Ur,Up,Us,Uo,szN,Uq,Gy,Hf,Gz,Hg,con_SameT.eq_def,con_dynamicV.eq_def,con_functionV.eq_def,con_wrappedV.eq_def,Zb,Zc,Ze,Zf,Zg,Zn,Zo,Zp,Zq,Zs,Zv,Zx,Zy,Z9,Qb,Qd,Qe,Qf,Qn,Qo,Qp,Qq,Qs,Q1,Q2,Q4,Q8,Jf,Jj,Jk,Jl,Jw,J2,J3,J4,J5,J6,J7,J8,J9,Xa,Xb,Xe,Xm,Xn,Xs,Xu,X1,X2,X4,X5,X6,X9,Wa,Wd,Wf,Wg,Wh,Wr,Ws,Wt,Wu,Wv,Ww,Wx,Wy,W4,W5,W6,W8,W9,Yc,Yg,Yk,Yr,Yu,Yv,Yw,Yy,Yz,Y5,Y6,Y7,Y9,Va,Vb,Vc,Vd,Ve,Vf,Vh,Vm,Vq,Vr,Vs,V4,V5,V7,Uh,Ui,Uj,Uk,Ul,Um,U2,U3,Kb,Kc,Kd]
         tactic =>
          try simp only [Uy] at *
          try simp only [nc2] at *
          try simp (maxSteps := 4000000) only [con4.eq_def,con4t.eq_def,e1,e2,e3,ht0,hu0,hDl,hd5n,hs,hr,Ur,Up,Us,Uo,szN,Uq,U1]
          repeat' (first | with_reducible assumption | with_reducible refine And.intro ?_ ?_ | intro _ | omega | (rw [Ux]; omega))
          all_goals first
            | omega
            | rfl
            | (rw [← hr2]; done)
            | (rw [← hr2]; rfl)
            | skip)
      | false =>
        rw [hs, cond_false] at hr2
        simp only [Try.f67, Option.some.injEq] at hc
        subst hc
        refine Kl 2 (of_decide_eq_true (by kernel_rfl)) ?_
        (sym =>
         simp [con4.eq_def,con4t.eq_def,e1,e2,e3,ht0,hu0,hDl,hd5n,hs,hr,Ur,Up,Us,Uo,szN,Uq,Gy,Hf,Gz,Hg,con_SameT.eq_def,con_dynamicV.eq_def,con_functionV.eq_def,con_wrappedV.eq_def,Zb,Zc,Ze,Zf,Zg,Zn,Zo,Zp,Zq,Zs,Zv,Zx,Zy,Z9,Qb,Qd,Qe,Qf,Qn,Qo,Qp,Qq,Qs,Q1,Q2,Q4,Q8,Jf,Jj,Jk,Jl,Jw,J2,J3,J4,J5,J6,J7,J8,J9,Xa,Xb,Xe,Xm,Xn,Xs,Xu,X1,X2,X4,X5,X6,X9,Wa,Wd,Wf,Wg,Wh,Wr,Ws,Wt,Wu,Wv,Ww,Wx,Wy,W4,W5,W6,W8,W9,Yc,Yg,Yk,Yr,Yu,Yv,Yw,Yy,Yz,Y5,Y6,Y7,Y8,Y9,Va,Vb,Vc,Vd,Ve,Vf,Vh,Vk,Vm,Vq,Vr,Vs,V4,V5,V7,Uh,Ui,Uj,Uk,Ul,Um,U2,U3,Kb,Kc,Kd]
         tactic =>
          try simp only [Uy] at *
          try simp only [nc2] at *
          try simp (maxSteps := 4000000) only [con4.eq_def,con4t.eq_def,e1,e2,e3,ht0,hu0,hDl,hd5n,hs,hr,Ur,Up,Us,Uo,szN,Uq,U1]
          repeat' (first | with_reducible assumption | with_reducible refine And.intro ?_ ?_ | intro _ | omega | (rw [Ux]; omega))
          all_goals first
            | omega
            | rfl
            | (rw [← hr2]; done)
            | (rw [← hr2]; rfl)
            | skip)
    | false =>
      rw [hu0] at hr2
      simp only [cond_false] at hr2
      cases hu5 : ((u.getD 0 n0).kind == 5) with
      | false =>
        have hu5n : ((u.getD 0 n0).kind != 5) = true := by rw [bne, hu5]; rfl
        rw [hu5, cond_false] at hr2
        simp only [Try.f67, Option.some.injEq] at hc
        subst hc
        refine Kl 2 (of_decide_eq_true (by kernel_rfl)) ?_
        (sym =>
         simp [con4.eq_def,con4t.eq_def,e1,e2,e3,ht0,hu0,hDl,hu5n,hr,Ur,Up,Us,Uo,szN,Uq,Gy,Gz,con_functionV.eq_def,Zb,Zc,Ze,Zf,Zg,Zn,Zo,Zp,Zq,Zs,Zv,Zx,Zy,Qb,Qd,Qn,Qo,Qp,Qq,Qs,Q1,Q2,Q4,Q8,Jk,Jw,J2,J3,J4,J5,J7,J8,Xa,Xb,Xe,Xf,Xm,Xn,X1,X2,X4,X5,X6,X9,Wa,Wd,Wf,Wg,Wh,Wr,Ws,Wt,Wu,Ww,Wy,W4,W5,W6,W8,W9,Yc,Yg,Yk,Yr,Yu,Yv,Yw,Yy,Yz,Y5,Y6,Y9,Va,Vb,Vc,Vd,Ve,Vf,Vh,Vq,Vr,Vs,V4,V5,V7,Uh,Ui,Uj,Uk,Um,U2,U3,Kb,Kc,Kd]
         tactic =>
          try simp only [Uy] at *
          try simp only [nc2] at *
          try simp (maxSteps := 4000000) only [con4.eq_def,con4t.eq_def,e1,e2,e3,ht0,hu0,hDl,hu5n,hr,Ur,Up,Us,Uo,szN,Uq,U1]
          repeat' (first | with_reducible assumption | with_reducible refine And.intro ?_ ?_ | intro _ | omega | (rw [Ux]; omega))
          all_goals first
            | omega
            | rfl
            | (rw [← hr2]; done)
            | (rw [← hr2]; rfl)
            | skip)
      | true =>
        have hu5n : ((u.getD 0 n0).kind != 5) = false := by rw [bne, hu5]; rfl
        rw [hu5, cond_true] at hr2
        cases hs : same3 t u with
        | true =>
          rw [hs, cond_true] at hr2
          simp only [Try.f67, Option.some.injEq] at hc
          subst hc
          refine Kl 2 (of_decide_eq_true (by kernel_rfl)) ?_
          (sym =>
           simp [con4.eq_def,con4t.eq_def,e1,e2,e3,ht0,hu0,hDl,hu5n,hs,hr,Ur,Up,Us,Uo,szN,Uq,Gy,Hf,Gz,Hg,con_SameT.eq_def,con_dynamicV.eq_def,con_functionV.eq_def,con_wrappedV.eq_def,Zb,Zc,Ze,Zf,Zg,Zn,Zo,Zp,Zq,Zs,Zv,Zx,Zy,Z9,Qb,Qd,Qe,Qf,Qn,Qo,Qp,Qq,Qs,Q1,Q2,Q4,Q8,Jf,Jj,Jk,Jl,Jw,J2,J3,J4,J5,J6,J7,J8,J9,Xa,Xb,Xe,Xm,Xn,Xs,Xu,X1,X2,X4,X5,X6,X9,Wa,Wd,Wf,Wg,Wh,Wr,Ws,Wt,Wu,Wv,Ww,Wx,Wy,W4,W5,W6,W8,W9,Yc,Yg,Yk,Yr,Yu,Yv,Yw,Yy,Yz,Y5,Y6,Y7,Y9,Va,Vb,Vc,Vd,Ve,Vf,Vh,Vm,Vq,Vr,Vs,V4,V5,V7,Uh,Ui,Uj,Uk,Ul,Um,U2,U3,Kb,Kc,Kd]
           tactic =>
            try simp only [Uy] at *
            try simp only [nc2] at *
            try simp (maxSteps := 4000000) only [con4.eq_def,con4t.eq_def,e1,e2,e3,ht0,hu0,hDl,hu5n,hs,hr,Ur,Up,Us,Uo,szN,Uq,U1]
            repeat' (first | with_reducible assumption | with_reducible refine And.intro ?_ ?_ | intro _ | omega | (rw [Ux]; omega))
            all_goals first
              | omega
              | rfl
              | (rw [← hr2]; done)
              | (rw [← hr2]; rfl)
              | skip)
        | false =>
          rw [hs, cond_false] at hr2
          simp only [Try.f67, Option.some.injEq] at hc
          subst hc
          refine Kl 2 (of_decide_eq_true (by kernel_rfl)) ?_
          (sym =>
           simp [con4.eq_def,con4t.eq_def,e1,e2,e3,ht0,hu0,hDl,hu5n,hs,hr,Ur,Up,Us,Uo,szN,Uq,Gy,Hf,Gz,Hg,con_SameT.eq_def,con_dynamicV.eq_def,con_functionV.eq_def,con_wrappedV.eq_def,Zb,Zc,Ze,Zf,Zg,Zn,Zo,Zp,Zq,Zs,Zv,Zx,Zy,Z9,Qb,Qd,Qe,Qf,Qn,Qo,Qp,Qq,Qs,Q1,Q2,Q4,Q8,Jf,Jj,Jk,Jl,Jw,J2,J3,J4,J5,J6,J7,J8,J9,Xa,Xb,Xe,Xm,Xn,Xs,Xu,X1,X2,X4,X5,X6,X9,Wa,Wd,Wf,Wg,Wh,Wr,Ws,Wt,Wu,Wv,Ww,Wx,Wy,W4,W5,W6,W8,W9,Yc,Yg,Yk,Yr,Yu,Yv,Yw,Yy,Yz,Y5,Y6,Y7,Y8,Y9,Va,Vb,Vc,Vd,Ve,Vf,Vh,Vk,Vm,Vq,Vr,Vs,V4,V5,V7,Ui,Uj,Uk,Ul,Um,U2,U3,Kb,Kc,Kd]
           tactic =>
            try simp only [Uy] at *
            try simp only [nc2] at *
            try simp (maxSteps := 4000000) only [con4.eq_def,con4t.eq_def,e1,e2,e3,ht0,hu0,hDl,hu5n,hs,hr,Ur,Up,Us,Uo,szN,Uq,U1]
            repeat' (first | with_reducible assumption | with_reducible refine And.intro ?_ ?_ | intro _ | omega | (rw [Ux]; omega))
            all_goals first
              | omega
              | rfl
              | (rw [← hr2]; done)
              | (rw [← hr2]; rfl)
              | skip)
end Go.Am.Ty
set_option linter.unusedSimpArgs false
set_option linter.unusedVariables false
set_option maxHeartbeats 2000000
namespace Go.Am.Ty
open Go.Proofs Go.Rose Go.Rose.Rose
open Enc (enc dec)
def dynT : Rose Node := mk n0 []
theorem Th : nds dynT = [n0] := rfl
def fieldR (t : Rose Node) (s : List UInt8) : Option (Rose Node) := (t.kids.findIdx? (fun k => k.root.name == s)).map fun j => clrX (t.kids.getD j (mk n0 []))
theorem fieldX_row {t : Rose Node} {s : List UInt8} (h : isRowT t.root = true) (h0 : t.root.kind ≠ 0) : fieldX t s = match fieldR t s with
    | some y => (⟨nds y⟩, 0)
    | none => (⟨[]⟩, 9) := by
  unfold fieldX fieldR
  rw [show (t.root.kind == 0) = false by rw [beq_eq_false_iff_ne]; exact h0, cond_false, h, cond_true]
  cases t.kids.findIdx? (fun k => k.root.name == s) with
  | none => rfl
  | some j => simp only [Option.map_some]; rw [L9]
def fieldsR (t : Rose Node) : List (Rose VNode) → Option (List (Rose Node))
  | [] => some []
  | k :: ks => match fieldR t k.root.label with
    | none => none
    | some y => (fieldsR t ks).map (y :: ·)
theorem Ak {t : Rose Node} {k : Rose VNode} : ∀ {ks : List (Rose VNode)}, fieldsR t (ks ++ [k]) = match fieldsR t ks, fieldR t k.root.label with
    | some l, some y => some (l ++ [y])
    | _, _ => none
  | [] => by
    rw [List.nil_append, fieldsR, fieldsR]
    cases fieldR t k.root.label <;> rfl
  | x :: xs => by
    rw [List.cons_append, fieldsR, fieldsR, Ak]
    cases fieldR t x.root.label with
    | none => rfl
    | some y =>
      simp only
      cases fieldsR t xs with
      | none => rfl
      | some l =>
        cases fieldR t k.root.label <;> rfl
theorem Al {t : Rose Node} : ∀ {ks : List (Rose VNode)} {k : Nat} (h : k < ks.length), fieldR t ks[k].root.label = none → fieldsR t ks = none
  | [], k, h, _ => by simp at h
  | x :: xs, k, h, hn => by
    rw [fieldsR]
    cases k with
    | zero => simp only [List.getElem_cons_zero] at hn; rw [hn]
    | succ k =>
      rw [Al (k := k) (by simpa using h) hn]
      cases fieldR t x.root.label <;> rfl
theorem O9 {t : Rose Node} : ∀ {ks : List (Rose VNode)} {l : List (Rose Node)}, fieldsR t ks = some l → l.length = ks.length
  | [], l, h => by rw [fieldsR] at h; injection h with h; rw [← h]; rfl
  | x :: xs, l, h => by
    rw [fieldsR] at h
    cases hx : fieldR t x.root.label with
    | none => rw [hx] at h; cases h
    | some y =>
      rw [hx] at h
      simp only [Option.map_eq_some_iff] at h
      obtain ⟨l', h1, rfl⟩ := h
      rw [List.length_cons, List.length_cons, O9 h1]
def partsR (n : VNode) (ks : List (Rose VNode)) (t : Rose Node) : Option (List (Rose Node)) :=
  cond (t.root.kind == 0) (some (List.replicate ks.length dynT))
    (cond (t.root.kind == 7 && n.kind == 5) ((fieldR t n.name).map fun y => [y])
      (cond (t.root.kind == 6 && (n.kind == 4 && t.root.n == (ks.length : Int))) (fieldsR t ks) none))
def slsN (l : List (Rose Node)) : List (Sl Node) := l.map fun y => Sl.mk (nds y)
theorem Pu {l : List (Rose Node)} : (slsN l).length = l.length := by unfold slsN; simp
theorem slsN_snoc {l : List (Rose Node)} {y : Rose Node} : (slsN l).map (enc : Sl Node → D) ++ [.list 3 ((nds y).map enc)] = (slsN (l ++ [y])).map enc := by
  unfold slsN
  rw [List.map_append, List.map_append]
  rfl
noncomputable def partsX (x : Rose VNode) (t : Rose Node) : Sl (Sl Node) × Bool := match partsR x.root x.kids t with
  | some l => (⟨slsN l⟩, true)
  | none => (cond (t.root.kind == 7 && x.root.kind == 5) ⟨[⟨[]⟩]⟩ ⟨[]⟩, false)
noncomputable def con_partsV : Con := con2t (fun (v : Sl VNode) (t : Sl Node) => v.l.length ≤ 1000000 ∧ (∃ x, OneV v.l x ∧ (x.root.kind = 4 ∨ x.root.kind = 5)) ∧ t.l.length ≤ 1000000 ∧ ∃ y, At ar t.l 0 y) (fun v t => partsX (treeAt arV v.l 0) (treeAt ar t.l 0))
theorem Ij {ks : List (Rose VNode)} {k : Nat} (h : k < ks.length) : (sls ks).getD k ⟨[]⟩ = ⟨nds ks[k]⟩ := by
  unfold sls
  simp [h]
noncomputable def ctx_partsV : Ctx := ⟨tab, lkC [(65, con_kidsV), (93, con_dynV), (94, con_FieldP)], 60, lkB [], [], false⟩
theorem Ho : ctx_partsV.τ = tab := rfl
theorem H3 : ctx_partsV.Γ = lkC [(65, con_kidsV), (93, con_dynV), (94, con_FieldP)] := rfl
theorem Hp : ctx_partsV.dp = 60 := rfl
theorem H4 : ctx_partsV.Δ = lkB [] := rfl
theorem Lb : ctx_partsV.wr = false := rfl
set_option maxRecDepth 100000 in
theorem Oy : Good Try.prog (64, con_partsV) := by
  refine ⟨U0 Try.func64 (by kernel_rfl) rfl, ?_⟩
  have K : CtxOk Try.prog ctx_partsV := U4 Ki Ka (by
    intro p hp
    simp only [List.mem_cons, List.not_mem_nil, or_false] at hp
    rcases hp with rfl | rfl | rfl
    · exact Cb
    · exact good_dynV
    · exact good_FieldP) (by simp)
  obtain ⟨c, hc⟩ : ∃ c, Try.f64.body = some c := ⟨_, rfl⟩
  refine U5 K Try.func64 hc [.tmp 4, .tmp 5] rfl 117 rfl (fun cvs hpre => ?_)
  change con_partsV.pre cvs at hpre
  unfold con_partsV at hpre
  obtain ⟨⟨v⟩, ⟨t⟩, rfl, hv, ⟨x, hx, hk45⟩, ht, y, hy⟩ := con2t_pre hpre
  simp only at hv hx ht hy
  have hx1 := hx.tree
  have hy1 := Ga hy
  have hxl := hx.at.lt
  have hyl := hy.lt
  have ev := U8 v0 hxl
  have et := U8 n0 hyl
  rw [hx.at.root v0] at ev
  rw [hy.root n0] at et
  have hkl := D4 x.kids
  have hvl : v.length = 1 + (ndss x.kids).length := by rw [hx.1, Gx, List.length_cons]; omega
  obtain ⟨ks, hks⟩ : ∃ ks, x.kids = ks := ⟨_, rfl⟩
  rw [hks] at hkl hvl
  have hsl : (sls ks).length = ks.length := Mn
  obtain ⟨R, hR⟩ : ∃ R, partsX x y = R := ⟨_, rfl⟩
  have hR2 := hR
  unfold partsX partsR at hR2
  rw [hks] at hR2
  obtain ⟨n, hn⟩ : ∃ n, x.root = n := ⟨_, rfl⟩
  rw [hn] at ev hk45 hR2
  obtain ⟨p, hp⟩ : ∃ p, y.root = p := ⟨_, rfl⟩
  rw [hp] at et hR2
  clear hpre
  cases h0 : (p.kind == 0) with
  | true =>
    rw [h0] at hR2
    simp only [cond_true] at hR2
    have hrow : (n.kind == 4 || n.kind == 5) = true := by rcases hk45 with h | h <;> simp [h]
    simp only [Try.f64, Option.some.injEq] at hc
    subst hc
    refine Kl 7 (of_decide_eq_true (by kernel_rfl)) ?_
    (sym =>
     simp [con1w.eq_def,hx1,hy1,hks,hsl,ev,et,h0,hR,Ut,Uw,Uv,Uu,szV,Ur,Up,Us,Uo,szN,Uq,Ho,H3,Hp,H4,con_FieldP.eq_def,con_dynV.eq_def,con_kidsV.eq_def,con_partsV.eq_def,Zb,Zc,Ze,Zf,Zn,Zo,Zp,Zq,Zs,Zv,Zx,Zy,Z6,Z9,Qb,Qd,Qe,Qf,Qq,Qs,Q1,Q2,Q4,Q8,Jf,Jh,Ji,Jj,Jl,Jw,J2,J3,J4,J5,J7,J8,Xa,Xb,Xe,Xm,Xn,Xs,Xw,X2,X4,X5,X6,X7,Wa,Wd,Wf,Wg,Wh,Wr,Ws,Wt,Wu,Wv,Ww,Wx,Wy,W4,W5,W6,W8,W9,Yc,Yg,Yk,Yr,Yu,Yw,Yy,Yz,Y4,Y5,Y6,Y9,Va,Vb,Vc,Vd,Ve,Vh,Vm,Vq,Vr,Vs,V4,V5,V7,Uh,Uj,Uk,Ul,Um,U2,U3,Kb,K7,He]
     tactic =>
      try simp only [Uy] at *
      try simp only [nc2] at *
      try simp (maxSteps := 4000000) only [con1w.eq_def,hx1,hy1,hks,hsl,ev,et,h0,hR,Ut,Uw,Uv,Uu,szV,Ur,Up,Us,Uo,szN,Uq,U1]
      repeat' (first | with_reducible assumption | with_reducible refine And.intro ?_ ?_ | intro _ | omega | (rw [Ux]; omega))
      · exact ⟨x, hx⟩
      refine Ke [25, 26, 27, 28, 29, 30] (fun k : Nat => [(6, .sl 6 ((slsN (List.replicate k dynT)).map (enc : Sl Node → D)).length), (24, .d (.int .i64 k))]) (fun k : Nat => [(6, .row 1 ((slsN (List.replicate k dynT)).map enc) 0)]) (fun k : Nat => k ≤ ks.length) (fun k : Nat => ks.length - k) 0 ?_ ?_ ?_
      · simp
      · ((try simp only [Uz, killAll, setSlots, updAll, upd, U9, setCs, putC, Nat.reduceDiv, Nat.reduceMod, Nat.reduceMul, Nat.reduceAdd, Nat.reduceEqDiff, List.set_cons_zero, List.set_cons_succ, if_true, if_false, reduceIte]); (first | refine Wk.of_fl ?_ | skip); simp only [Wk, wkK, wkCs, wkT, wk1, AV.kept, keptAll, wkO, lk, wkObj, and_true, true_and, and_self, Nat.reduceEqDiff, Nat.reduceLeDiff, if_true, if_false, reduceIte, reduceCtorEq, Option.isSome, false_implies]; try simp [Wk, wkK, wkT, wk1, AV.kept, keptAll, wkO, lk, wkObj, slsN])
      rintro k hk
      have hrl : (slsN (List.replicate k dynT)).length = k := by rw [Pu, List.length_replicate]
      have hrl2 : (slsN (List.replicate (k + 1) dynT)).length = k + 1 := by rw [Pu, List.length_replicate]
      have hsn : (slsN (List.replicate k dynT)).map (enc : Sl Node → D) ++ [.list 3 [.agg [.int .i64 0, .str [], .int .i64 0]]] = (slsN (List.replicate (k + 1) dynT)).map enc := by
        rw [List.replicate_succ', ← slsN_snoc]
        rfl
      rcases Kf k ks.length with ⟨hlt, hlb⟩ | ⟨hlt, hlb⟩
      · (sym =>
         simp [con1w.eq_def,hlb,hrl,hsn,Ut,Uw,Uv,Uu,szV,Ur,Up,Us,Uo,szN,Uq,Ho,H3,Hp,H4,Lb,con_FieldP.eq_def,con_dynV.eq_def,con_kidsV.eq_def,Zb,Zc,Ze,Zf,Zg,Zo,Zr,Z1,Z4,Z5,Z9,Qb,Qd,Qe,Qf,Qq,Qs,Q1,Q2,Q4,Q8,Jb,Jc,Jd,Je,Jf,Jg,Jh,Ji,Jj,Jl,Jx,Jy,Jz,J4,J5,J7,J8,Xa,Xb,Xc,Xd,Xe,Xs,Xw,X1,X2,X4,X5,X6,Wa,Wd,Wf,Wg,Wh,Wi,Wl,Wr,Ws,Wt,Wu,Wv,Wx,Wy,Wz,W0,W3,W4,W5,W8,W9,Yb,Yc,Yg,Y0,Y5,Y6,Y7,Vr,V3,V4,V9,Uh,Uj,Uk,Ul,Um,U2,U3,K7]
         tactic =>
          try simp only [Uy] at *
          try simp only [nc2] at *
          try simp (maxSteps := 4000000) only [con1w.eq_def,hlb,hrl,hsn,Ut,Uw,Uv,Uu,szV,Ur,Up,Us,Uo,szN,Uq,U1]
          repeat' (first | with_reducible assumption | with_reducible refine And.intro ?_ ?_ | intro _ | omega | (rw [Ux]; omega))
          all_goals first
            | omega
            | (refine ⟨k + 1, ?_, by omega, by omega⟩; ((try simp only [Uz, killAll, setSlots, updAll, upd, U9, setCs, putC, Nat.reduceDiv, Nat.reduceMod, Nat.reduceMul, Nat.reduceAdd, Nat.reduceEqDiff, List.set_cons_zero, List.set_cons_succ, if_true, if_false, reduceIte]); (first | refine Wk.of_fl ?_ | skip); simp only [Wk, wkK, wkCs, wkT, wk1, AV.kept, keptAll, wkO, lk, wkObj, and_true, true_and, and_self, Nat.reduceEqDiff, Nat.reduceLeDiff, if_true, if_false, reduceIte, reduceCtorEq, Option.isSome, false_implies]; try simp [Wk, wkK, wkT, wk1, AV.kept, keptAll, wkO, lk, wkObj, hrl, hrl2, hsn]); done)
            | (refine ⟨k + 1, ?_, by omega, by omega⟩; ((try simp only [Uz, killAll, setSlots, updAll, upd, U9, setCs, putC, Nat.reduceDiv, Nat.reduceMod, Nat.reduceMul, Nat.reduceAdd, Nat.reduceEqDiff, List.set_cons_zero, List.set_cons_succ, if_true, if_false, reduceIte]); (first | refine Wk.of_fl ?_ | skip); simp only [Wk, wkK, wkCs, wkT, wk1, AV.kept, keptAll, wkO, lk, wkObj, and_true, true_and, and_self, Nat.reduceEqDiff, Nat.reduceLeDiff, if_true, if_false, reduceIte, reduceCtorEq, Option.isSome, false_implies]; try simp [Wk, wkK, wkT, wk1, AV.kept, keptAll, wkO, lk, wkObj, hrl, hrl2, hsn]); exact hsn)
            | skip)
      · have hkl2 : k = ks.length := by omega
        subst hkl2
        (sym =>
         simp [con1w.eq_def,hlb,hrl,hx1,hy1,hks,hsl,ev,et,hR,Ut,Uw,Uv,Uu,szV,Ur,Up,Us,Uo,szN,Uq,Ho,H3,Hp,H4,Lb,con_FieldP.eq_def,con_dynV.eq_def,con_kidsV.eq_def,Zb,Zc,Zd,Ze,Zf,Zg,Zh,Zi,Zj,Zk,Zl,Zm,Zo,Zp,Zq,Zs,Zt,Zv,Zx,Zy,Qb,Qd,Qn,Qo,Qp,Qq,Qr,Qs,Q1,Q2,Q4,Q5,Q6,Q8,Jh,Ji,Jk,Jx,Jy,Jz,J4,J5,J7,J8,Xa,Xb,Xe,Xg,Xs,Xw,X2,X3,X4,X5,X8,X9,Wa,Wb,Wc,Wd,We,Wf,Wg,Wh,Wn,Wr,Ws,Wt,Wu,W0,W3,W6,W7,W8,W9,Yb,Yc,Yg,Yk,Yr,Yu,Yy,Yz,Y5,Y6,Vq,Vr,Vs,V4,V5,Uh,Ui,Uj,Uk,Um,Un,U2,Kc,Kd]
         tactic =>
          try simp only [Uy] at *
          try simp only [nc2] at *
          try simp (maxSteps := 4000000) only [con1w.eq_def,hlb,hrl,hx1,hy1,hks,hsl,ev,et,hR,Ut,Uw,Uv,Uu,szV,Ur,Up,Us,Uo,szN,Uq,U1]
          repeat' (first | with_reducible assumption | with_reducible refine And.intro ?_ ?_ | intro _ | omega | (rw [Ux]; omega))
          all_goals first
            | (with_reducible refine Kh ?_; kernel_rfl)
            | omega
            | (rw [← hR2]; done)
            | (rw [← hR2]; rfl)
            | (rw [← hR2]; simp_all; done)
            | skip))
  | false =>
    rw [h0] at hR2
    simp only [cond_false] at hR2
    cases h75 : (p.kind == 7 && n.kind == 5) with
    | true =>
      rw [h75] at hR2
      simp only [cond_true] at hR2
      rw [Bool.and_eq_true] at h75
      obtain ⟨h7, h5⟩ := h75
      have hrow : isRowT y.root = true := by rw [hp]; unfold isRowT; rw [h7, Bool.or_true]
      have hfx := fieldX_row (s := n.name) hrow (by rw [hp]; simpa using h0)
      obtain ⟨f, hf⟩ : ∃ f, fieldR y n.name = f := ⟨_, rfl⟩
      rw [hf] at hfx hR2
      cases f with
      | none =>
        simp only [Option.map_none] at hR2 hfx
        simp only [Try.f64, Option.some.injEq] at hc
        subst hc
        refine Kl 7 (of_decide_eq_true (by kernel_rfl)) ?_
        (sym =>
         simp [con1w.eq_def,hx1,hy1,hks,hsl,ev,et,h0,h7,h5,hfx,hR,Ut,Uw,Uv,Uu,szV,Ur,Up,Us,Uo,szN,Uq,Ho,H3,Hp,H4,con_FieldP.eq_def,con_dynV.eq_def,con_kidsV.eq_def,con_partsV.eq_def,Zb,Zc,Zd,Ze,Zf,Zg,Zn,Zo,Zp,Zq,Zr,Zs,Zt,Zv,Zx,Zy,Z1,Z4,Z5,Z8,Z9,Qb,Qd,Qe,Qf,Qg,Qn,Qo,Qp,Qq,Qs,Q1,Q2,Q4,Q8,Q9,Ja,Jb,Jc,Jd,Je,Jf,Jg,Jh,Ji,Jj,Jk,Jl,Jw,J2,J3,J4,J5,J7,J8,Xa,Xb,Xc,Xd,Xe,Xg,Xm,Xn,Xs,Xw,X2,X4,X5,X6,X9,Wa,Wd,Wf,Wg,Wh,Wi,Wl,Wr,Ws,Wt,Wu,Wv,Ww,Wx,Wy,Wz,W0,W3,W4,W5,W6,W7,W8,W9,Yc,Yg,Yk,Yr,Ys,Yu,Yv,Yw,Yy,Yz,Y0,Y4,Y5,Y6,Y7,Y9,Va,Vb,Vc,Vd,Ve,Vg,Vh,Vl,Vm,Vq,Vr,Vs,V3,V4,V5,V7,V9,Uh,Ui,Uj,Uk,Ul,Um,U2,Gr,U3,Kb,tab30,Kc,Kd,K7]
         tactic =>
          try simp only [Uy] at *
          try simp only [nc2] at *
          try simp (maxSteps := 4000000) only [con1w.eq_def,hx1,hy1,hks,hsl,ev,et,h0,h7,h5,hfx,hR,Ut,Uw,Uv,Uu,szV,Ur,Up,Us,Uo,szN,Uq,U1]
          repeat' (first | with_reducible assumption | with_reducible refine And.intro ?_ ?_ | intro _ | omega | (rw [Ux]; omega))
          all_goals first
            | exact ⟨x, hx⟩
            | exact ⟨y, hy⟩
            | (with_reducible refine Kh ?_; kernel_rfl)
            | omega
            | (rw [← hR2]; done)
            | (rw [← hR2]; rfl)
            | skip)
      | some z =>
        simp only [Option.map_some] at hR2 hfx
        simp only [Try.f64, Option.some.injEq] at hc
        subst hc
        refine Kl 7 (of_decide_eq_true (by kernel_rfl)) ?_
        (sym =>
         simp [con1w.eq_def,hx1,hy1,hks,hsl,ev,et,h0,h7,h5,hfx,hR,Ut,Uw,Uv,Uu,szV,Ur,Up,Us,Uo,szN,Uq,Ho,H3,Hp,H4,con_FieldP.eq_def,con_dynV.eq_def,con_kidsV.eq_def,con_partsV.eq_def,Zb,Zc,Zd,Ze,Zf,Zg,Zn,Zo,Zp,Zq,Zr,Zs,Zt,Zv,Zx,Zy,Z1,Z4,Z5,Z8,Z9,Qb,Qd,Qe,Qf,Qg,Qn,Qo,Qp,Qq,Qs,Q1,Q2,Q4,Q8,Q9,Ja,Jb,Jc,Jd,Je,Jf,Jg,Jh,Ji,Jj,Jk,Jl,Jw,J2,J3,J4,J5,J7,J8,Xa,Xb,Xc,Xd,Xe,Xg,Xm,Xn,Xs,Xw,X2,X4,X5,X6,X9,Wa,Wd,Wf,Wg,Wh,Wi,Wl,Wr,Ws,Wt,Wu,Wv,Ww,Wx,Wy,Wz,W0,W3,W4,W5,W6,W7,W8,W9,Yc,Yg,Yk,Yr,Ys,Yu,Yv,Yw,Yy,Yz,Y0,Y4,Y5,Y6,Y7,Y9,Va,Vb,Vc,Vd,Ve,Vg,Vh,Vl,Vm,Vq,Vr,Vs,V3,V4,V5,V7,V9,Uh,Ui,Uj,Uk,Ul,Um,U2,Gr,U3,Kb,tab30,Kc,Kd,K7]
         tactic =>
          try simp only [Uy] at *
          try simp only [nc2] at *
          try simp (maxSteps := 4000000) only [con1w.eq_def,hx1,hy1,hks,hsl,ev,et,h0,h7,h5,hfx,hR,Ut,Uw,Uv,Uu,szV,Ur,Up,Us,Uo,szN,Uq,U1]
          repeat' (first | with_reducible assumption | with_reducible refine And.intro ?_ ?_ | intro _ | omega | (rw [Ux]; omega))
          all_goals first
            | exact ⟨x, hx⟩
            | exact ⟨y, hy⟩
            | (with_reducible refine Kh ?_; kernel_rfl)
            | omega
            | (rw [← hR2]; done)
            | (rw [← hR2]; rfl)
            | skip)
    | false =>
      rw [h75] at hR2
      simp only [cond_false] at hR2
      cases h64 : (p.kind == 6 && (n.kind == 4 && p.n == (ks.length : Int))) with
      | false =>
        rw [h64] at hR2
        simp only [cond_false] at hR2
        simp only [Try.f64, Option.some.injEq] at hc
        subst hc
        refine Kl 7 (of_decide_eq_true (by kernel_rfl)) ?_
        (sym =>
         simp [con1w.eq_def,hx1,hy1,hks,hsl,ev,et,h0,hR,Ut,Uw,Uv,Uu,szV,Ur,Up,Us,Uo,szN,Uq,Ho,H3,Hp,H4,con_FieldP.eq_def,con_dynV.eq_def,con_kidsV.eq_def,con_partsV.eq_def,Zb,Zc,Zd,Ze,Zf,Zg,Zn,Zo,Zp,Zq,Zr,Zs,Zt,Zv,Zx,Zy,Z1,Z4,Z5,Z6,Z8,Z9,Qb,Qd,Qe,Qf,Qg,Qn,Qo,Qp,Qq,Qs,Q1,Q2,Q4,Q8,Q9,Ja,Jb,Jc,Jd,Je,Jf,Jg,Jh,Ji,Jj,Jk,Jl,Jw,J2,J3,J4,J5,J7,J8,Xa,Xb,Xc,Xd,Xe,Xf,Xg,Xm,Xn,Xs,Xw,X1,X2,X4,X5,X6,X7,X9,Wa,Wd,Wf,Wg,Wh,Wi,Wl,Wr,Ws,Wt,Wu,Wv,Ww,Wx,Wy,Wz,W0,W3,W4,W5,W6,W7,W8,W9,Yc,Yg,Yk,Yr,Ys,Yu,Yv,Yw,Yy,Yz,Y0,Y4,Y5,Y6,Y7,Y9,Va,Vb,Vc,Vd,Ve,Vg,Vh,Vl,Vm,Vq,Vr,Vs,V3,V4,V5,V7,V9,Uh,Ui,Uj,Uk,Ul,Um,U2,Gr,U3,Kb,tab30,Kc,Kd,K7,He]
         tactic =>
          try simp only [Uy] at *
          try simp only [nc2] at *
          try simp (maxSteps := 4000000) only [con1w.eq_def,hx1,hy1,hks,hsl,ev,et,h0,hR,Ut,Uw,Uv,Uu,szV,Ur,Up,Us,Uo,szN,Uq,U1]
          repeat' (first | with_reducible assumption | with_reducible refine And.intro ?_ ?_ | intro _ | omega | (rw [Ux]; omega))
          all_goals first
            | exact ⟨x, hx⟩
            | exact ⟨y, hy⟩
            | (with_reducible refine Kh ?_; kernel_rfl)
            | omega
            | (rw [← hR2]; done)
            | (rw [← hR2]; rfl)
            | (exfalso; simp_all; done)
            | skip)
      | true =>
        rw [h64] at hR2
        simp only [cond_true] at hR2
        rw [Bool.and_eq_true, Bool.and_eq_true] at h64
        obtain ⟨h6, h4, hnn⟩ := h64
        have h7 : (p.kind == 7) = false := by rw [beq_iff_eq] at h6; rw [h6]; rfl
        have n6 : (p.kind != 6) = false := by rw [bne, h6]; rfl
        have n4 : (n.kind != 4) = false := by rw [bne, h4]; rfl
        have nn : (p.n != (ks.length : Int)) = false := by rw [bne, hnn]; rfl
        have hrow : isRowT y.root = true := by rw [hp]; unfold isRowT; rw [h6, Bool.true_or]
        have hfx := fun s => fieldX_row (s := s) hrow (by rw [hp]; simpa using h0)
        simp only [Try.f64, Option.some.injEq] at hc
        subst hc
        refine Kl 7 (of_decide_eq_true (by kernel_rfl)) ?_
        (sym =>
         simp [con1w.eq_def,hx1,hy1,hks,hsl,ev,et,h0,h7,n6,n4,nn,hR,Ut,Uw,Uv,Uu,szV,Ur,Up,Us,Uo,szN,Uq,Ho,H3,Hp,H4,con_FieldP.eq_def,con_dynV.eq_def,con_kidsV.eq_def,con_partsV.eq_def,Zb,Zc,Zd,Ze,Zf,Zg,Zn,Zo,Zp,Zq,Zs,Zt,Zv,Zx,Zy,Z6,Z9,Qb,Qd,Qe,Qf,Qq,Qs,Q1,Q2,Q4,Q8,Jf,Jh,Ji,Jj,Jl,Jw,J2,J3,J4,J5,J7,J8,Xa,Xb,Xe,Xm,Xn,Xs,Xw,X1,X2,X4,X5,X6,X7,Wa,Wd,Wf,Wg,Wh,Wr,Ws,Wt,Wu,Wv,Ww,Wx,Wy,W4,W5,W6,W7,W8,W9,Yc,Yg,Yk,Yr,Yu,Yw,Yy,Yz,Y4,Y5,Y6,Y9,Va,Vb,Vc,Vd,Ve,Vh,Vm,Vq,Vr,Vs,V4,V5,V7,Ui,Uj,Uk,Ul,Um,U2,U3,Kb,Kc,Kd,K7,He]
         tactic =>
          try simp only [Uy] at *
          try simp only [nc2] at *
          try simp (maxSteps := 4000000) only [con1w.eq_def,hx1,hy1,hks,hsl,ev,et,h0,h7,n6,n4,nn,hR,Ut,Uw,Uv,Uu,szV,Ur,Up,Us,Uo,szN,Uq,U1]
          repeat' (first | with_reducible assumption | with_reducible refine And.intro ?_ ?_ | intro _ | omega | (rw [Ux]; omega))
          · exact ⟨x, hx⟩
          refine Ke [4, 5, 11, 12, 13, 97, 98, 99, 100, 101, 102, 103, 104, 105, 106, 107, 108, 109, 110, 111, 112, 113, 114, 115] (fun q : Nat × List (Rose Node) => [(6, .sl 6 ((slsN q.2).map (enc : Sl Node → D)).length), (96, .d (.int .i64 q.1))]) (fun q : Nat × List (Rose Node) => [(6, .row 1 ((slsN q.2).map enc) 0)]) (fun q : Nat × List (Rose Node) => q.1 ≤ ks.length ∧ q.2.length = q.1 ∧ fieldsR y (ks.take q.1) = some q.2) (fun q : Nat × List (Rose Node) => ks.length - q.1) (0, []) ?_ ?_ ?_
          · exact ⟨Nat.zero_le _, rfl, rfl⟩
          · ((try simp only [Uz, killAll, setSlots, updAll, upd, U9, setCs, putC, Nat.reduceDiv, Nat.reduceMod, Nat.reduceMul, Nat.reduceAdd, Nat.reduceEqDiff, List.set_cons_zero, List.set_cons_succ, if_true, if_false, reduceIte]); (first | refine Wk.of_fl ?_ | skip); simp only [Wk, wkK, wkCs, wkT, wk1, AV.kept, keptAll, wkO, lk, wkObj, and_true, true_and, and_self, Nat.reduceEqDiff, Nat.reduceLeDiff, if_true, if_false, reduceIte, reduceCtorEq, Option.isSome, false_implies]; try simp [Wk, wkK, wkT, wk1, AV.kept, keptAll, wkO, lk, wkObj, slsN])
          rintro ⟨k, l⟩ ⟨hk, hll, hF⟩
          simp only at hk hll hF
          have hrl : (slsN l).length = k := by rw [Pu, hll]
          rcases Kf k ks.length with ⟨hlt, hlb⟩ | ⟨hlt, hlb⟩
          · have q1 := U8 (⟨[]⟩ : Sl VNode) (show k < (sls ks).length by omega)
            rw [Ij hlt] at q1
            obtain ⟨z, hz⟩ : ∃ z, ks[k] = z := ⟨_, rfl⟩
            have hsnoc := Ak (t := y) (k := z) (ks := ks.take k)
            rw [← hz, ← List.take_succ_eq_append_getElem hlt, hF, hz] at hsnoc
            have hnone := Al (t := y) hlt
            rw [hz] at q1 hnone
            have q2 := U8 v0 (show 0 < (nds z).length from K8 z)
            have hzr : (nds z).getD 0 v0 = z.root := by rw [Gx]; rfl
            rw [hzr] at q2
            have hzp := K8 z
            obtain ⟨m, hm⟩ : ∃ m, z.root = m := ⟨_, rfl⟩
            rw [hm] at q2 hsnoc hnone
            have hfm := hfx m.label
            cases hf : fieldR y m.label with
            | none =>
              rw [hf] at hfm
              rw [hnone hf] at hR2
              (sym =>
               simp [con1w.eq_def,hlb,q1,q2,hfm,hx1,hy1,hR,Ut,Uw,Uv,Uu,szV,Ur,Up,Us,Uo,szN,Uq,Ho,H3,Hp,H4,Lb,con_FieldP.eq_def,con_dynV.eq_def,con_kidsV.eq_def,Zb,Zc,Ze,Zf,Zg,Zn,Zo,Zp,Zq,Zr,Zs,Zv,Zx,Zy,Z1,Z4,Z5,Z8,Z9,Qb,Qd,Qe,Qf,Qg,Qn,Qo,Qp,Qq,Qs,Q1,Q2,Q4,Q8,Q9,Ja,Jb,Jc,Jd,Je,Jf,Jg,Jh,Ji,Jj,Jk,Jl,Jx,Jy,Jz,J4,J5,J6,J7,J8,J9,Xa,Xb,Xc,Xd,Xe,Xf,Xs,Xw,X1,X2,X4,X5,X6,X9,Wa,Wd,Wf,Wg,Wh,Wi,Wl,Wr,Ws,Wt,Wu,Wv,Wx,Wy,Wz,W0,W3,W4,W5,W6,W7,W8,W9,Yb,Yc,Yg,Yk,Ys,Yu,Yv,Yy,Yz,Y0,Y1,Y5,Y6,Y7,Y8,Vg,Vh,Vl,Vm,Vp,Vq,Vr,Vs,V3,V4,V5,V7,V9,Uh,Uj,Uk,Ul,Um,U2,Gr,U3,tab30,Kc,Kd,K7,He]
               tactic =>
                try simp only [Uy] at *
                try simp only [nc2] at *
                try simp (maxSteps := 4000000) only [con1w.eq_def,hlb,q1,q2,hfm,hx1,hy1,hR,Ut,Uw,Uv,Uu,szV,Ur,Up,Us,Uo,szN,Uq,U1]
                repeat' (first | with_reducible assumption | with_reducible refine And.intro ?_ ?_ | intro _ | omega | (rw [Ux]; omega))
                all_goals first
                  | exact ⟨y, hy⟩
                  | (with_reducible refine Kh ?_; kernel_rfl)
                  | omega
                  | (rw [← hR2]; done)
                  | (rw [← hR2]; rfl)
                  | skip)
            | some w =>
              rw [hf] at hfm
              rw [hf] at hsnoc
              simp only at hsnoc
              have hsn := slsN_snoc (l := l) (y := w)
              have hrl2 : (slsN (l ++ [w])).length = k + 1 := by rw [Pu, List.length_append, hll]; rfl
              (sym =>
               simp [con1w.eq_def,hlb,q1,q2,hfm,hx1,hy1,hrl,hsn,Ut,Uw,Uv,Uu,szV,Ur,Up,Us,Uo,szN,Uq,Ho,H3,Hp,H4,Lb,con_FieldP.eq_def,con_dynV.eq_def,con_kidsV.eq_def,Zb,Zc,Ze,Zf,Zg,Zn,Zo,Zp,Zq,Zr,Zs,Zv,Zx,Zy,Z1,Z4,Z5,Z8,Z9,Qb,Qd,Qe,Qf,Qg,Qn,Qo,Qp,Qq,Qs,Q1,Q2,Q4,Q8,Q9,Ja,Jb,Jc,Jd,Je,Jf,Jg,Jh,Ji,Jj,Jk,Jl,Jx,Jy,Jz,J4,J5,J6,J7,J8,J9,Xa,Xb,Xc,Xd,Xe,Xf,Xs,Xw,X1,X2,X4,X5,X6,X9,Wa,Wd,Wf,Wg,Wh,Wi,Wl,Wr,Ws,Wt,Wu,Wv,Wx,Wy,Wz,W0,W3,W4,W5,W6,W7,W8,W9,Yb,Yc,Yg,Yk,Ys,Yu,Yv,Yy,Yz,Y0,Y1,Y5,Y6,Y7,Y8,Vg,Vh,Vl,Vm,Vp,Vq,Vr,Vs,V3,V4,V5,V7,V9,Uh,Uj,Uk,Ul,Um,U2,Gr,U3,tab30,Kc,Kd,K7,He]
               tactic =>
                try simp only [Uy] at *
                try simp only [nc2] at *
                try simp (maxSteps := 4000000) only [con1w.eq_def,hlb,q1,q2,hfm,hx1,hy1,hrl,hsn,Ut,Uw,Uv,Uu,szV,Ur,Up,Us,Uo,szN,Uq,U1]
                repeat' (first | with_reducible assumption | with_reducible refine And.intro ?_ ?_ | intro _ | omega | (rw [Ux]; omega))
                all_goals first
                  | exact ⟨y, hy⟩
                  | (with_reducible refine Kh ?_; kernel_rfl)
                  | omega
                  | (refine ⟨(k + 1, l ++ [w]), ?_, by simp only; omega, by simp [hll], hsnoc, by simp only; omega⟩; ((try simp only [Uz, killAll, setSlots, updAll, upd, U9, setCs, putC, Nat.reduceDiv, Nat.reduceMod, Nat.reduceMul, Nat.reduceAdd, Nat.reduceEqDiff, List.set_cons_zero, List.set_cons_succ, if_true, if_false, reduceIte]); (first | refine Wk.of_fl ?_ | skip); simp only [Wk, wkK, wkCs, wkT, wk1, AV.kept, keptAll, wkO, lk, wkObj, and_true, true_and, and_self, Nat.reduceEqDiff, Nat.reduceLeDiff, if_true, if_false, reduceIte, reduceCtorEq, Option.isSome, false_implies]; try simp [Wk, wkK, wkT, wk1, AV.kept, keptAll, wkO, lk, wkObj, hrl, hrl2, hsn]); done)
                  | (refine ⟨(k + 1, l ++ [w]), ?_, by simp only; omega, by simp [hll], hsnoc, by simp only; omega⟩; ((try simp only [Uz, killAll, setSlots, updAll, upd, U9, setCs, putC, Nat.reduceDiv, Nat.reduceMod, Nat.reduceMul, Nat.reduceAdd, Nat.reduceEqDiff, List.set_cons_zero, List.set_cons_succ, if_true, if_false, reduceIte]); (first | refine Wk.of_fl ?_ | skip); simp only [Wk, wkK, wkCs, wkT, wk1, AV.kept, keptAll, wkO, lk, wkObj, and_true, true_and, and_self, Nat.reduceEqDiff, Nat.reduceLeDiff, if_true, if_false, reduceIte, reduceCtorEq, Option.isSome, false_implies]; try simp [Wk, wkK, wkT, wk1, AV.kept, keptAll, wkO, lk, wkObj, hrl, hrl2, hsn]); exact hsn)
                  | skip)
          · have hkl2 : k = ks.length := by omega
            rw [hkl2, List.take_length] at hF
            rw [hF] at hR2
            simp only at hR2
            (sym =>
             simp [con1w.eq_def,hlb,hrl,hx1,hy1,hR,Ut,Uw,Uv,Uu,szV,Ur,Up,Us,Uo,szN,Uq,Ho,Hp,Zb,Zc,Ze,Zf,Zg,Qb,Qd,Qn,Qo,Qp,Qq,Qs,Q1,Q2,Q4,Q8,Jh,Ji,Jk,Jx,Jy,Jz,J4,J5,J6,J7,J8,J9,Xa,Xb,Xe,Xg,X2,X4,X5,X8,X9,Wa,Wd,Wf,Wg,Wr,Ws,Wt,Wu,W8,W9,Yb,Yc,Yg,Y5,Y6,Y7,Y8,Vr,V5,Ui,Uj,Uk,Ul,Um,U2]
             tactic =>
              try simp only [Uy] at *
              try simp only [nc2] at *
              try simp (maxSteps := 4000000) only [con1w.eq_def,hlb,hrl,hx1,hy1,hR,Ut,Uw,Uv,Uu,szV,Ur,Up,Us,Uo,szN,Uq,U1]
              repeat' (first | with_reducible assumption | with_reducible refine And.intro ?_ ?_ | intro _ | omega | (rw [Ux]; omega))
              all_goals first
                | (with_reducible refine Kh ?_; kernel_rfl)
                | omega
                | (rw [← hR2]; done)
                | (rw [← hR2]; rfl)
                | skip))
end Go.Am.Ty
set_option linter.unusedSimpArgs false
set_option linter.unusedVariables false
set_option maxHeartbeats 2000000
namespace Go.Am.Ty
open Go.Proofs Go.Rose Go.Rose.Rose
open Enc (enc dec)
abbrev dv : Rose VNode := mk v0 []
mutual
def fitsR : Rose VNode → Rose Node → Bool
  | mk n ks, t => cond (n.kind == 6) (t.root.kind == 0 || t.root.kind == 5)
      (cond (n.kind == 7) (same3 n.u (nds t) || (t.root.kind == 0 && same3 n.u dynL))
        (cond (n.kind == 4 || n.kind == 5) (match partsR n ks t with
          | none => false
          | some l => fitsRs ks l) (t.root.kind == 0 || isBaseB n t.root.kind)))
def fitsRs : List (Rose VNode) → List (Rose Node) → Bool
  | [], _ => true
  | k :: ks, l => fitsR k (l.headD dynT) && fitsRs ks l.tail
end
mutual
def plainR : Rose VNode → Rose VNode
  | mk n ks => cond (isFunB n) (mk ⟨6, n.label, [], 0, 0, [], []⟩ []) (mk n (plainRs ks))
def plainRs : List (Rose VNode) → List (Rose VNode)
  | [] => []
  | k :: ks => plainR k :: plainRs ks
end
theorem H7 : ∀ ks : List (Rose VNode), plainRs ks = ks.map plainR
  | [] => rfl
  | k :: ks => by rw [plainRs, H7, List.map_cons]
def dynFT : Rose Node := mk n5 [dynT, dynT]
theorem Iv : nds dynFT = dynL := rfl
def arrR (t : Rose Node) : Rose Node := cond (t.root.kind == 0) dynFT t
def relabT : Rose VNode → Rose VNode
  | mk n ks => mk (relab n) ks
theorem Fd : ∀ x : Rose VNode, nds (relabT x) = relabL (nds x)
  | mk n ks => rfl
def wrapT (lab : Int) (x : Rose VNode) (t u : Rose Node) : Rose VNode := mk ⟨7, x.root.label, [], lab, 0, (nds t).map norm, (nds u).map norm⟩ [relabT x]
def funR (lab : Int) (x : Rose VNode) (t u : Rose Node) : Option (Rose VNode) :=
  cond ((arrR u).root.kind == 5) (cond (same3 (nds (arrR t)) (nds (arrR u))) (some x) (some (wrapT lab x (arrR t) (arrR u)))) none
mutual
def castR (lab : Int) : Rose VNode → Rose Node → Rose Node → Option (Rose VNode)
  | mk n ks, t, u => cond (same3 (nds t) (nds u)) (some (mk n ks))
      (cond (isFunB n) (funR lab (mk n ks) t u)
        (cond (n.kind == 4 || n.kind == 5) (match partsR n ks t, partsR n ks u with
          | some a, some b => (castRs lab ks a b).map (mk n)
          | _, _ => none) (cond (!(u.root.kind == 0) && !isBaseB n u.root.kind) none (some (mk n ks)))))
def castRs (lab : Int) : List (Rose VNode) → List (Rose Node) → List (Rose Node) → Option (List (Rose VNode))
  | [], _, _ => some []
  | k :: ks, a, b => match castR lab k (a.headD dynT) (b.headD dynT) with
    | none => none
    | some y => (castRs lab ks a.tail b.tail).map (y :: ·)
end
def seqO {β : Type} (f : Nat → Option β) : Nat → Option (List β)
  | 0 => some []
  | n + 1 => match seqO f n, f n with
    | some l, some y => some (l ++ [y])
    | _, _ => none
theorem L1 {β : Type} {f : Nat → Option β} : ∀ {n : Nat} {l : List β}, seqO f n = some l → l.length = n
  | 0, l, h => by injection h with h; rw [← h]; rfl
  | n + 1, l, h => by
    rw [seqO] at h
    cases h1 : seqO f n with
    | none => rw [h1] at h; cases h
    | some l' =>
      cases h2 : f n with
      | none => rw [h1, h2] at h; cases h
      | some y =>
        rw [h1, h2] at h
        injection h with h
        rw [← h, List.length_append, L1 h1]
        rfl
theorem Ik {β : Type} {f : Nat → Option β} {k : Nat} (h : f k = none) : ∀ {n : Nat}, k < n → seqO f n = none
  | 0, hk => by omega
  | n + 1, hk => by
    rw [seqO]
    by_cases e : k = n
    · subst e
      rw [h]
      cases seqO f k <;> rfl
    · rw [Ik h (n := n) (by omega)]
theorem seqO_at {β : Type} {f : Nat → Option β} : ∀ {n : Nat} {l : List β}, seqO f n = some l → ∀ j (h : j < l.length), f j = some l[j]
  | 0, l, h, j, hj => by injection h with h; subst h; simp at hj
  | n + 1, l, h, j, hj => by
    rw [seqO] at h
    cases h1 : seqO f n with
    | none => rw [h1] at h; cases h
    | some l' =>
      cases h2 : f n with
      | none => rw [h1, h2] at h; cases h
      | some y =>
        rw [h1, h2] at h
        injection h with h
        subst h
        have hl := L1 h1
        by_cases e : j < l'.length
        · rw [List.getElem_append_left e]
          exact seqO_at h1 j e
        · have : j = n := by rw [List.length_append, hl] at hj; simp at hj; omega
          subst this
          rw [List.getElem_append_right (by omega)]
          simp [h2]
theorem seqO_of {β : Type} {f : Nat → Option β} : ∀ {n : Nat} {l : List β}, l.length = n → (∀ j (h : j < l.length), f j = some l[j]) → seqO f n = some l
  | 0, l, h, _ => by rw [List.eq_nil_of_length_eq_zero h]; rfl
  | n + 1, l, h, hf => by
    have hl : l = l.take n ++ [l[n]] := by
      conv => lhs; rw [← List.take_length (l := l), h]
      exact List.take_succ_eq_append_getElem (by omega)
    have h1 : seqO f n = some (l.take n) := seqO_of (by rw [List.length_take]; omega) (fun j hj => by
      rw [List.length_take] at hj
      rw [hf j (by omega)]
      simp)
    rw [seqO, h1, hf n (by omega)]
    simp only
    rw [← hl]
theorem seqO_iff {β : Type} {f : Nat → Option β} {n : Nat} {l : List β} : seqO f n = some l ↔ l.length = n ∧ ∀ j (h : j < l.length), f j = some l[j] :=
  ⟨fun h => ⟨L1 h, seqO_at h⟩, fun h => seqO_of h.1 h.2⟩
theorem Sq {lab : Int} : ∀ {ks : List (Rose VNode)} {a b : List (Rose Node)} {ys : List (Rose VNode)}, castRs lab ks a b = some ys ↔ ys.length = ks.length ∧ ∀ j (h : j < ys.length), castR lab (ks.getD j dv) (a.getD j dynT) (b.getD j dynT) = some ys[j]
  | [], a, b, ys => by
    rw [castRs]
    constructor
    · intro h
      injection h with h
      subst h
      exact ⟨rfl, fun j hj => by simp at hj⟩
    · rintro ⟨h, _⟩
      rw [List.eq_nil_of_length_eq_zero h]
  | k :: ks, a, b, ys => by
    rw [castRs]
    have hd : ∀ c : List (Rose Node), c.headD dynT = c.getD 0 dynT := fun c => by cases c <;> rfl
    have ht : ∀ (c : List (Rose Node)) j, c.tail.getD j dynT = c.getD (j + 1) dynT := fun c j => by cases c <;> rfl
    rw [hd, hd]
    constructor
    · intro h
      cases hc : castR lab k (a.getD 0 dynT) (b.getD 0 dynT) with
      | none => rw [hc] at h; cases h
      | some y =>
        rw [hc] at h
        simp only [Option.map_eq_some_iff] at h
        obtain ⟨zs, h1, rfl⟩ := h
        obtain ⟨g1, g2⟩ := Sq.1 h1
        refine ⟨by simp [g1], fun j hj => ?_⟩
        cases j with
        | zero => exact hc
        | succ j =>
          have := g2 j (by simpa using hj)
          rw [ht, ht] at this
          exact this
    · rintro ⟨h1, h2⟩
      cases ys with
      | nil => simp at h1
      | cons y zs =>
        have h0 := h2 0 (by simp)
        simp only [List.getD_cons_zero, List.getElem_cons_zero] at h0
        rw [h0]
        simp only [Option.map_eq_some_iff]
        refine ⟨zs, Sq.2 ⟨by simpa using h1, fun j hj => ?_⟩, rfl⟩
        have := h2 (j + 1) (by simpa using hj)
        rw [ht, ht]
        exact this
theorem F4 {lab : Int} {ks : List (Rose VNode)} {a b : List (Rose Node)} : castRs lab ks a b = seqO (fun j => castR lab (ks.getD j dv) (a.getD j dynT) (b.getD j dynT)) ks.length := by
  apply Option.ext
  intro ys
  show castRs lab ks a b = some ys ↔ _ = some ys
  rw [Sq, seqO_iff]
theorem Fl : ∀ {ks : List (Rose VNode)} {l : List (Rose Node)}, fitsRs ks l = (List.range ks.length).all fun j => fitsR (ks.getD j dv) (l.getD j dynT)
  | [], l => rfl
  | k :: ks, l => by
    have hd : l.headD dynT = l.getD 0 dynT := by cases l <;> rfl
    have ht : ∀ j, l.tail.getD j dynT = l.getD (j + 1) dynT := fun j => by cases l <;> rfl
    rw [fitsRs, Fl, List.length_cons, List.range_succ_eq_map, List.all_cons, List.all_map, hd]
    simp only [ht]
    rfl
theorem Pd {n : VNode} {ks : List (Rose VNode)} {t : Rose Node} {l : List (Rose Node)} (h : partsR n ks t = some l) (hk : n.kind = 5 → ks.length = 1) : l.length = ks.length := by
  unfold partsR at h
  cases h0 : (t.root.kind == 0) with
  | true =>
    rw [h0, cond_true] at h
    injection h with h
    rw [← h, List.length_replicate]
  | false =>
    rw [h0, cond_false] at h
    cases h1 : (t.root.kind == 7 && n.kind == 5) with
    | true =>
      rw [h1, cond_true, Option.map_eq_some_iff] at h
      obtain ⟨y, _, rfl⟩ := h
      rw [Bool.and_eq_true, beq_iff_eq, beq_iff_eq] at h1
      rw [hk h1.2]
      rfl
    | false =>
      rw [h1, cond_false] at h
      cases h2 : (t.root.kind == 6 && (n.kind == 4 && t.root.n == (ks.length : Int))) with
      | true => rw [h2, cond_true] at h; exact O9 h
      | false => rw [h2, cond_false] at h; cases h
theorem fieldR_some {t y : Rose Node} {s : List UInt8} (h : fieldR t s = some y) : ∃ j, ∃ hj : j < t.kids.length, y = clrX t.kids[j] ∧ t.kids[j].root.name = s := by
  unfold fieldR at h
  rw [Option.map_eq_some_iff] at h
  obtain ⟨j, h1, h2⟩ := h
  rw [List.findIdx?_eq_some_iff_getElem] at h1
  obtain ⟨g1, g2, _⟩ := h1
  refine ⟨j, g1, ?_, by simpa using g2⟩
  rw [← h2]
  simp [g1]
theorem Iq {P : Rose Node → Prop} {n : VNode} {ks : List (Rose VNode)} {t : Rose Node} {l : List (Rose Node)} (h : partsR n ks t = some l) (h0 : P dynT) (hP : ∀ j (hj : j < t.kids.length), P (clrX t.kids[j])) : ∀ y ∈ l, P y := by
  have hf : ∀ {s y}, fieldR t s = some y → P y := fun {s y} h => by
    obtain ⟨j, hj, rfl, _⟩ := fieldR_some h
    exact hP j hj
  have hfs : ∀ {ks l}, fieldsR t ks = some l → ∀ y ∈ l, P y := by
    intro ks
    induction ks with
    | nil =>
      intro l h
      rw [fieldsR] at h
      injection h with h
      subst h
      intro y hy
      cases hy
    | cons k ks ih =>
      intro l h
      rw [fieldsR] at h
      cases hk : fieldR t k.root.label with
      | none => rw [hk] at h; cases h
      | some z =>
        rw [hk] at h
        simp only [Option.map_eq_some_iff] at h
        obtain ⟨l', h1, rfl⟩ := h
        intro y hy
        rcases List.mem_cons.1 hy with rfl | hy
        · exact hf hk
        · exact ih h1 y hy
  unfold partsR at h
  cases g0 : (t.root.kind == 0) with
  | true =>
    rw [g0, cond_true] at h
    injection h with h
    rw [← h]
    intro y hy
    rw [List.eq_of_mem_replicate hy]
    exact h0
  | false =>
    rw [g0, cond_false] at h
    cases h1 : (t.root.kind == 7 && n.kind == 5) with
    | true =>
      rw [h1, cond_true, Option.map_eq_some_iff] at h
      obtain ⟨y, h2, rfl⟩ := h
      intro z hz
      rw [List.mem_singleton] at hz
      rw [hz]
      exact hf h2
    | false =>
      rw [h1, cond_false] at h
      cases h2 : (t.root.kind == 6 && (n.kind == 4 && t.root.n == (ks.length : Int))) with
      | true => rw [h2, cond_true] at h; exact hfs h
      | false => rw [h2, cond_false] at h; cases h
def TyT (y : Rose Node) : Prop := wf ar y ∧ (nds y).length ≤ 1000000
theorem tyT_dyn : TyT dynT := ⟨⟨rfl, trivial⟩, by rw [Th]; decide⟩
theorem clrX_nlen (x : Rose Node) : (nds (clrX x)).length = (nds x).length := by rw [L9]; cases nds x <;> rfl
theorem ndsN_get {ks : List (Rose Node)} {i : Nat} (h : i < ks.length) : (nds ks[i]).length ≤ (ndss ks).length := by
  induction ks generalizing i with
  | nil => simp at h
  | cons x xs ih =>
    simp only [ndss, List.length_append]
    cases i with
    | zero => simp
    | succ i => have := ih (i := i) (by simpa using h); simp only [List.getElem_cons_succ]; omega
theorem tyT_kid {t : Rose Node} (h : TyT t) {j : Nat} (hj : j < t.kids.length) : TyT (clrX t.kids[j]) := by
  obtain ⟨h1, h2⟩ := h
  rw [C1] at h1
  refine ⟨B4 (Pt h1.2 _ (List.getElem_mem hj)), ?_⟩
  rw [clrX_nlen]
  have := ndsN_get hj
  rw [Gx, List.length_cons] at h2
  omega
theorem P8 {n : VNode} {ks : List (Rose VNode)} {t : Rose Node} {l : List (Rose Node)} (ht : TyT t) (h : partsR n ks t = some l) : ∀ y ∈ l, TyT y :=
  Iq h tyT_dyn fun _ hj => tyT_kid ht hj
end Go.Am.Ty
set_option linter.unusedSimpArgs false
set_option linter.unusedVariables false
set_option maxHeartbeats 2000000
namespace Go.Am.Ty
open Go.Proofs Go.Rose Go.Rose.Rose
open Enc (enc dec)
def OneN (t : List Node) (y : Rose Node) : Prop := t = nds y ∧ TyT y
theorem OneN.at {t : List Node} {y : Rose Node} (h : OneN t y) : At ar t 0 y := by rw [h.1]; exact Ni h.2.1
theorem OneN.tree {t : List Node} {y : Rose Node} (h : OneN t y) : treeAt ar t 0 = y := Ga h.at
theorem Tf {y : Rose Node} (h : TyT y) : OneN (nds y) y := ⟨rfl, h⟩
noncomputable def con_FitsV (n : Nat) : Con := con2 (fun (v : Sl VNode) (t : Sl Node) => v.l.length ≤ 1000000 ∧ (∃ x, OneV v.l x) ∧ (∀ m ∈ v.l, Short2 m) ∧ (∃ y, OneN t.l y) ∧ v.l.length < n) (fun v t => fitsR (treeAt arV v.l 0) (treeAt ar t.l 0))
theorem con_FitsV_zero : ∀ c, ¬ (con_FitsV 0).pre c := by
  intro c h
  unfold con_FitsV at h
  obtain ⟨_, _, _, _, _, _, _, h⟩ := Kj h
  omega
theorem Dx {l : List (Rose Node)} {k : Nat} (h : k < l.length) : (slsN l).getD k ⟨[]⟩ = ⟨nds l[k]⟩ := by
  unfold slsN
  simp [h]
theorem oneV_sub {x : Rose VNode} (hw : wf arV x) {i : Nat} (h : i < x.kids.length) : OneV (nds x.kids[i]) x.kids[i] := by
  rw [C1] at hw
  exact ⟨rfl, Pt hw.2 _ (List.getElem_mem h)⟩
theorem C8 {x : Rose VNode} {i : Nat} (h : i < x.kids.length) : ∀ m ∈ nds x.kids[i], m ∈ nds x := by
  intro m hm
  rw [Gx]
  refine List.mem_cons_of_mem _ ?_
  generalize x.kids = ks at h hm ⊢
  induction ks generalizing i with
  | nil => simp at h
  | cons y ys ih =>
    rw [ndss, List.mem_append]
    cases i with
    | zero => exact .inl hm
    | succ i => exact .inr (ih (by simpa using h) (by simpa using hm))
theorem Ru {x : Rose VNode} {i : Nat} (h : i < x.kids.length) : (nds x.kids[i]).length < (nds x).length := by
  rw [Gx x, List.length_cons]
  have := C7 h
  omega
theorem L6 {p : Nat → Bool} {k : Nat} : (List.range (k + 1)).all p = ((List.range k).all p && p k) := by
  rw [List.range_succ, List.all_append]
  simp
theorem kid1 {x : Rose VNode} (hw : wf arV x) (h : x.root.kind = 5) : x.kids.length = 1 := by
  rw [C1] at hw
  rw [hw.1]
  unfold arV
  rw [if_neg (by omega), if_pos (.inl h)]
noncomputable def ctx_FitsV (n : Nat) : Ctx := ⟨tab, lkC [(59, con_SameT), (62, con_dynamicV), (63, con_isBaseV), (64, con_partsV), (65, con_kidsV), (34, (con_FitsV n))], 60, lkB [], [], false⟩
theorem Gi (n : Nat) : (ctx_FitsV n).τ = tab := rfl
theorem Ny (n : Nat) : (ctx_FitsV n).Γ = lkC [(59, con_SameT), (62, con_dynamicV), (63, con_isBaseV), (64, con_partsV), (65, con_kidsV), (34, (con_FitsV n))] := rfl
theorem G3 (n : Nat) : (ctx_FitsV n).dp = 60 := rfl
theorem Nz (n : Nat) : (ctx_FitsV n).Δ = lkB [] := rfl
theorem Mj (n : Nat) : (ctx_FitsV n).wr = false := rfl
set_option maxRecDepth 100000 in
theorem step_FitsV (n : Nat) (ih : Good Try.prog (34, con_FitsV n)) : Good Try.prog (34, (con_FitsV (n + 1))) := by
  refine ⟨U0 Try.func34 (by kernel_rfl) rfl, ?_⟩
  have K : CtxOk Try.prog (ctx_FitsV n) := U4 Ki Ka (by
    intro p hp
    simp only [List.mem_cons, List.not_mem_nil, or_false] at hp
    rcases hp with rfl | rfl | rfl | rfl | rfl | rfl
    · exact Sc
    · exact Eu
    · exact R4
    · exact Oy
    · exact Cb
    · exact ih) (by simp)
  obtain ⟨c, hc⟩ : ∃ c, Try.f34.body = some c := ⟨_, rfl⟩
  refine U5 K Try.func34 hc [.tmp 4] rfl 99 rfl (fun cvs hpre => ?_)
  change (con_FitsV (n + 1)).pre cvs at hpre
  unfold con_FitsV at hpre
  obtain ⟨⟨v⟩, ⟨t⟩, rfl, hv, ⟨x, hx⟩, hS, ⟨y, hy⟩, hn⟩ := Kj hpre
  simp only at hv hx hS hy hn
  have hx1 := hx.tree
  have hy1 := hy.tree
  have hxl := hx.at.lt
  have hyl := hy.at.lt
  have hya := hy.at
  have htl : t.length ≤ 1000000 := by rw [hy.1]; exact hy.2.2
  have ev := U8 v0 hxl
  have et := U8 n0 hyl
  rw [hx.at.root v0] at ev
  rw [hya.root n0] at et
  have hSx : Short2 x.root := by
    have := hS _ (M3 (d := v0) hxl)
    rw [hx.at.root v0] at this
    exact this
  obtain ⟨hs1, hs2⟩ := hSx
  obtain ⟨R, hR⟩ : ∃ R, fitsR x y = R := ⟨_, rfl⟩
  have hR2 := hR
  rw [show x = mk x.root x.kids by cases x; rfl, fitsR] at hR2
  rw [← hy.1] at hR2
  have hsub := @oneV_sub x hx.2
  have hmem := @C8 x
  have hlen := @Ru x
  have hk1 := kid1 hx.2
  rw [← hx.1] at hmem hlen
  obtain ⟨ks, hks⟩ : ∃ ks, x.kids = ks := ⟨_, rfl⟩
  rw [hks] at hR2
  simp only [hks] at hsub hmem hlen hk1
  have hsl : (sls ks).length = ks.length := Mn
  obtain ⟨m, hm⟩ : ∃ m, x.root = m := ⟨_, rfl⟩
  rw [hm] at ev hR2 hs1 hs2 hk1
  obtain ⟨p, hp⟩ : ∃ p, y.root = p := ⟨_, rfl⟩
  rw [hp] at et hR2
  have hdl : dynL.length ≤ 9223372036854775807 := by decide
  have htl2 : t.length ≤ 9223372036854775807 := by omega
  obtain ⟨dl, hDl⟩ : ∃ dl, dl = dynL := ⟨_, rfl⟩
  rw [← hDl] at hR2 hdl
  have hDl2 : arrow3 [n0] [n0] = dl := by rw [hDl]; rfl
  clear hpre hDl
  simp only [Try.f34, Option.some.injEq] at hc
  subst hc
  refine Kl 6 (of_decide_eq_true (by kernel_rfl)) ?_
  cases k6 : (m.kind == 6) with
  | true =>
    rw [k6, cond_true] at hR2
    (sym =>
     simp [hx1,hy1,ev,et,hR,k6,Ut,Uw,Uv,Uu,szV,Ur,Up,Us,Uo,szN,Uq,Gi,G3,con_FitsV.eq_def,Zb,Zc,Zd,Ze,Zf,Zg,Zo,Zp,Zq,Zs,Zt,Zv,Zx,Zy,Qb,Qd,Qn,Qo,Qp,Qq,Qs,Q1,Q2,Q4,Q8,Jk,Jw,J2,J3,J4,J5,J7,J8,Xa,Xb,Xe,Xm,Xn,Xu,X2,X4,X5,X6,X9,Wa,Wd,Wf,Wg,Wh,Wr,Ws,Wt,Wu,Ww,Wy,W4,W5,W6,W7,W8,W9,Yc,Yg,Yk,Yr,Yu,Yw,Yy,Yz,Y5,Y6,Y9,Va,Vb,Vc,Vd,Ve,Vh,Vq,Vr,Vs,V4,V5,Uh,Ui,Uj,Uk,Um,U2,U3,Kb,Kc,Kd]
     tactic =>
      try simp only [Uy] at *
      try simp only [nc2] at *
      try simp (maxSteps := 4000000) only [hx1,hy1,ev,et,hR,k6,Ut,Uw,Uv,Uu,szV,Ur,Up,Us,Uo,szN,Uq,U1]
      repeat' (first | with_reducible assumption | with_reducible refine And.intro ?_ ?_ | intro _ | omega | (rw [Ux]; omega))
      all_goals first
        | omega
        | (rw [← hR2]; clear hR2 hR; simp_all; done)
        | skip)
  | false =>
  rw [k6, cond_false] at hR2
  cases k7 : (m.kind == 7) with
  | true =>
    rw [k7, cond_true] at hR2
    (sym =>
     simp [hx1,hy1,ev,et,hR,k6,k7,hDl2,Ut,Uw,Uv,Uu,szV,Ur,Up,Us,Uo,szN,Uq,Gi,Ny,G3,Nz,Mj,con_FitsV.eq_def,con_SameT.eq_def,con_dynamicV.eq_def,con_isBaseV.eq_def,con_kidsV.eq_def,con_partsV.eq_def,Zb,Zc,Zd,Ze,Zf,Zg,Zh,Zi,Zj,Zk,Zl,Zm,Zo,Zp,Zq,Zs,Zt,Zv,Zx,Zy,Z9,Qb,Qd,Qe,Qf,Qn,Qo,Qp,Qq,Qr,Qs,Q1,Q2,Q4,Q5,Q6,Q8,Jf,Jj,Jk,Jl,Jw,J2,J3,J4,J5,J7,J8,Xa,Xb,Xe,Xm,Xn,Xs,Xu,Xw,X2,X3,X4,X5,X6,X9,Wa,Wb,Wc,Wd,We,Wf,Wg,Wh,Wn,Wo,Wp,Wq,Wr,Ws,Wt,Wu,Wv,Ww,Wx,Wy,W0,W3,W4,W5,W6,W7,W8,W9,Yc,Yg,Yk,Yr,Yt,Yu,Yw,Yy,Yz,Y5,Y6,Y9,Va,Vb,Vc,Vd,Ve,Vh,Vi,Vj,Vm,Vq,Vr,Vs,V4,V5,Uh,Ui,Uj,Uk,Ul,Um,Un,U2,U3,Kb,Kc,Kd]
     tactic =>
      try simp only [Uy] at *
      try simp only [nc2] at *
      try simp (maxSteps := 4000000) only [hx1,hy1,ev,et,hR,k6,k7,hDl2,Ut,Uw,Uv,Uu,szV,Ur,Up,Us,Uo,szN,Uq,U1]
      repeat' (first | with_reducible assumption | with_reducible refine And.intro ?_ ?_ | intro _ | omega | (rw [Ux]; omega))
      all_goals first
        | (with_reducible refine Kh ?_; kernel_rfl)
        | omega
        | (rw [← hR2]; clear hR2 hR; simp_all; done)
        | skip)
  | false =>
  rw [k7, cond_false] at hR2
  cases k45 : (m.kind == 4 || m.kind == 5) with
  | false =>
    rw [k45, cond_false] at hR2
    rw [Bool.or_eq_false_iff] at k45
    obtain ⟨k4, k5⟩ := k45
    have n4 : (m.kind != 4) = true := by rw [bne, k4]; rfl
    have n5 : (m.kind != 5) = true := by rw [bne, k5]; rfl
    have zz1 := hx.at.root v0
    (sym =>
     simp [hx1,hy1,ev,et,hR,k6,k7,n4,n5,zz1,hm,Ut,Uw,Uv,Uu,szV,Ur,Up,Us,Uo,szN,Uq,Gi,Ny,G3,Nz,con_FitsV.eq_def,con_SameT.eq_def,con_dynamicV.eq_def,con_isBaseV.eq_def,con_kidsV.eq_def,con_partsV.eq_def,Zb,Zc,Zd,Ze,Zf,Zg,Zo,Zp,Zq,Zs,Zt,Zv,Zx,Zy,Z9,Qb,Qd,Qe,Qf,Qn,Qo,Qp,Qq,Qs,Q1,Q2,Q4,Q8,Jf,Jj,Jk,Jl,Jw,J2,J3,J4,J5,J7,J8,Xa,Xb,Xe,Xm,Xn,Xs,Xu,Xw,X2,X4,X5,X6,X9,Wa,Wd,Wf,Wg,Wh,Wr,Ws,Wt,Wu,Wv,Ww,Wx,Wy,W4,W5,W6,W7,W8,W9,Yc,Yg,Yk,Yr,Yu,Yw,Yy,Yz,Y5,Y6,Y9,Va,Vb,Vc,Vd,Ve,Vf,Vh,Vk,Vm,Vq,Vr,Vs,V4,V5,Uh,Ui,Uj,Uk,Um,U2,U3,Kb,Kc,Kd]
     tactic =>
      try simp only [Uy] at *
      try simp only [nc2] at *
      try simp (maxSteps := 4000000) only [hx1,hy1,ev,et,hR,k6,k7,n4,n5,zz1,hm,Ut,Uw,Uv,Uu,szV,Ur,Up,Us,Uo,szN,Uq,U1]
      repeat' (first | with_reducible assumption | with_reducible refine And.intro ?_ ?_ | intro _ | omega | (rw [Ux]; omega))
      all_goals first
        | (with_reducible refine Kh ?_; kernel_rfl)
        | omega
        | (rw [← hR2]; clear hR2 hR; simp_all; done)
        | skip)
  | true =>
  rw [k45, cond_true] at hR2
  have h45 : m.kind = 4 ∨ m.kind = 5 := by simpa using k45
  have hkk : ks.length ≤ v.length := by rw [hx.1, Gx, List.length_cons, hks]; have := D4 ks; omega
  have hex : ∃ x, OneV v x ∧ (x.root.kind = 4 ∨ x.root.kind = 5) := ⟨x, hx, by rw [hm]; exact h45⟩
  cases hpr : partsR m ks y with
  | none =>
    rw [hpr] at hR2
    simp only at hR2
    have hpx : partsX x y = (cond (p.kind == 7 && m.kind == 5) ⟨[⟨[]⟩]⟩ ⟨[]⟩, false) := by unfold partsX; rw [hks, hm, hpr, hp]
    obtain ⟨gl, hgl⟩ : ∃ gl : Sl (Sl Node), cond (p.kind == 7 && m.kind == 5) ⟨[⟨[]⟩]⟩ ⟨[]⟩ = gl := ⟨_, rfl⟩
    rw [hgl] at hpx
    rcases h45 with h | h
    · have n4 : (m.kind != 4) = false := by rw [h]; rfl
      (sym =>
       simp [con1w.eq_def,hx1,hy1,hks,hsl,ev,et,k6,k7,n4,hpx,Ut,Uw,Uv,Uu,szV,Ur,Up,Us,Uo,szN,Uq,Gi,Ny,G3,Nz,con_FitsV.eq_def,con_SameT.eq_def,con_dynamicV.eq_def,con_isBaseV.eq_def,con_kidsV.eq_def,con_partsV.eq_def,Zb,Zc,Zd,Ze,Zf,Zg,Zo,Zp,Zq,Zs,Zt,Zv,Zx,Zy,Z6,Z8,Z9,Qb,Qd,Qe,Qf,Qg,Qq,Qs,Q1,Q2,Q4,Q8,Q9,Ja,Jf,Jh,Ji,Jj,Jl,Jw,J2,J3,J4,J5,J7,J8,Xa,Xb,Xe,Xm,Xn,Xs,Xu,Xw,X1,X2,X4,X5,X6,X7,Wa,Wd,Wf,Wg,Wh,Wr,Ws,Wt,Wu,Wv,Ww,Wx,Wy,W4,W5,W6,W7,W8,W9,Yc,Yg,Yk,Yr,Yu,Yw,Yy,Yz,Y4,Y5,Y6,Y9,Va,Vb,Vc,Vd,Ve,Vh,Vm,Vq,Vr,Vs,V4,V5,Ui,Uj,Uk,Ul,Um,U2,U3,Kb,Kc,Kd,He]
       tactic =>
        try simp only [Uy] at *
        try simp only [nc2] at *
        try simp (maxSteps := 4000000) only [con1w.eq_def,hx1,hy1,hks,hsl,ev,et,k6,k7,n4,hpx,Ut,Uw,Uv,Uu,szV,Ur,Up,Us,Uo,szN,Uq,U1]
        repeat' (first | with_reducible assumption | with_reducible refine And.intro ?_ ?_ | intro _ | omega | (rw [Ux]; omega))
        · exact ⟨y, hya⟩
        · exact ⟨x, hx⟩
        refine Ke [8, 9, 84, 85, 86, 87, 88, 89, 90, 91, 92, 93, 94, 95, 96, 97] (fun k : Nat => [(7, .d (.bool false)), (83, .d (.int .i64 k))]) (fun k : Nat => []) (fun k : Nat => k ≤ ks.length) (fun k : Nat => ks.length - k) 0 ?_ ?_ ?_
        · simp
        · ((try simp only [Uz, killAll, setSlots, updAll, upd, U9, setCs, putC, Nat.reduceDiv, Nat.reduceMod, Nat.reduceMul, Nat.reduceAdd, Nat.reduceEqDiff, List.set_cons_zero, List.set_cons_succ, if_true, if_false, reduceIte]); (first | refine Wk.of_fl ?_ | skip); simp only [Wk, wkK, wkCs, wkT, wk1, AV.kept, keptAll, wkO, lk, wkObj, and_true, true_and, and_self, Nat.reduceEqDiff, Nat.reduceLeDiff, if_true, if_false, reduceIte, reduceCtorEq, Option.isSome, false_implies]; try simp [Wk, wkK, wkT, wk1, AV.kept, keptAll, wkO, lk, wkObj])
        rintro k hk
        rcases Kf k ks.length with ⟨hlt, hlb⟩ | ⟨hlt, hlb⟩
        · have q1 := U8 (⟨[]⟩ : Sl VNode) (show k < (sls ks).length by omega)
          (sym =>
           simp [con1w.eq_def,hlb,q1,Ut,Uw,Uv,Uu,szV,Ur,Up,Us,Uo,szN,Uq,Gi,Mj,Zb,Zc,Zd,Ze,Zf,Zg,Zo,Zp,Zq,Zt,Zv,Zy,Qb,Qd,Qq,Qs,Q1,Q2,Q4,Jh,Jx,Jy,Jz,J4,J5,J6,J7,J8,J9,Xa,Xb,X1,X2,X4,X5,X6,Wa,Wd,Wf,Wg,Wh,Wr,Ws,Wt,Wu,W6,W7,W8,W9,Yb,Yc,Yg,Yk,Y1,Y5,Y6,Y7,Y8,Vp,Vr,V4,V5,Uh,Ui,Uj,Uk,Ul,Um,U2,Kc,He]
           tactic =>
            try simp only [Uy] at *
            try simp only [nc2] at *
            try simp (maxSteps := 4000000) only [con1w.eq_def,hlb,q1,Ut,Uw,Uv,Uu,szV,Ur,Up,Us,Uo,szN,Uq,U1]
            repeat' (first | with_reducible assumption | with_reducible refine And.intro ?_ ?_ | intro _ | omega | (rw [Ux]; omega))
            all_goals first
              | (with_reducible refine Kh ?_; kernel_rfl)
              | omega
              | exact ⟨k + 1, by ((try simp only [Uz, killAll, setSlots, updAll, upd, U9, setCs, putC, Nat.reduceDiv, Nat.reduceMod, Nat.reduceMul, Nat.reduceAdd, Nat.reduceEqDiff, List.set_cons_zero, List.set_cons_succ, if_true, if_false, reduceIte]); (first | refine Wk.of_fl ?_ | skip); simp only [Wk, wkK, wkCs, wkT, wk1, AV.kept, keptAll, wkO, lk, wkObj, and_true, true_and, and_self, Nat.reduceEqDiff, Nat.reduceLeDiff, if_true, if_false, reduceIte, reduceCtorEq, Option.isSome, false_implies]; try simp [Wk, wkK, wkT, wk1, AV.kept, keptAll, wkO, lk, wkObj]), by omega, by omega⟩)
        · subst hR2
          (sym =>
           simp [con1w.eq_def,hlb,hx1,hy1,hR,Ut,Uw,Uv,Uu,szV,Ur,Up,Us,Uo,szN,Uq,Gi,G3,Zb,Zc,Ze,Zf,Zg,Qb,Qd,Qn,Qo,Qp,Qq,Qs,Q1,Q2,Q4,Q8,Jk,Jx,Jy,Jz,J4,J5,J6,J7,J8,J9,Xa,Xb,Xe,X2,X4,X5,X8,X9,Wa,Wd,Wf,Wg,Wr,Ws,Wt,Wu,W8,W9,Yb,Yc,Yg,Y5,Y6,Y7,Y8,Vr,Ui,Uj,Uk,U2]))
    · have n4 : (m.kind != 4) = true := by rw [h]; rfl
      have n5 : (m.kind != 5) = false := by rw [h]; rfl
      (sym =>
       simp [con1w.eq_def,hx1,hy1,hks,hsl,ev,et,k6,k7,n4,n5,hpx,Ut,Uw,Uv,Uu,szV,Ur,Up,Us,Uo,szN,Uq,Gi,Ny,G3,Nz,con_FitsV.eq_def,con_SameT.eq_def,con_dynamicV.eq_def,con_isBaseV.eq_def,con_kidsV.eq_def,con_partsV.eq_def,Zb,Zc,Zd,Ze,Zf,Zg,Zo,Zp,Zq,Zs,Zt,Zv,Zx,Zy,Z6,Z8,Z9,Qb,Qd,Qe,Qf,Qg,Qq,Qs,Q1,Q2,Q4,Q8,Q9,Ja,Jf,Jh,Ji,Jj,Jl,Jw,J2,J3,J4,J5,J7,J8,Xa,Xb,Xe,Xm,Xn,Xs,Xu,Xw,X1,X2,X4,X5,X6,X7,Wa,Wd,Wf,Wg,Wh,Wr,Ws,Wt,Wu,Wv,Ww,Wx,Wy,W4,W5,W6,W7,W8,W9,Yc,Yg,Yk,Yr,Yu,Yw,Yy,Yz,Y4,Y5,Y6,Y9,Va,Vb,Vc,Vd,Ve,Vh,Vm,Vq,Vr,Vs,V4,V5,Uh,Ui,Uj,Uk,Ul,Um,U2,U3,Kb,Kc,Kd,He]
       tactic =>
        try simp only [Uy] at *
        try simp only [nc2] at *
        try simp (maxSteps := 4000000) only [con1w.eq_def,hx1,hy1,hks,hsl,ev,et,k6,k7,n4,n5,hpx,Ut,Uw,Uv,Uu,szV,Ur,Up,Us,Uo,szN,Uq,U1]
        repeat' (first | with_reducible assumption | with_reducible refine And.intro ?_ ?_ | intro _ | omega | (rw [Ux]; omega))
        · exact ⟨y, hya⟩
        · exact ⟨x, hx⟩
        refine Ke [8, 9, 84, 85, 86, 87, 88, 89, 90, 91, 92, 93, 94, 95, 96, 97] (fun k : Nat => [(7, .d (.bool false)), (83, .d (.int .i64 k))]) (fun k : Nat => []) (fun k : Nat => k ≤ ks.length) (fun k : Nat => ks.length - k) 0 ?_ ?_ ?_
        · simp
        · ((try simp only [Uz, killAll, setSlots, updAll, upd, U9, setCs, putC, Nat.reduceDiv, Nat.reduceMod, Nat.reduceMul, Nat.reduceAdd, Nat.reduceEqDiff, List.set_cons_zero, List.set_cons_succ, if_true, if_false, reduceIte]); (first | refine Wk.of_fl ?_ | skip); simp only [Wk, wkK, wkCs, wkT, wk1, AV.kept, keptAll, wkO, lk, wkObj, and_true, true_and, and_self, Nat.reduceEqDiff, Nat.reduceLeDiff, if_true, if_false, reduceIte, reduceCtorEq, Option.isSome, false_implies]; try simp [Wk, wkK, wkT, wk1, AV.kept, keptAll, wkO, lk, wkObj])
        rintro k hk
        rcases Kf k ks.length with ⟨hlt, hlb⟩ | ⟨hlt, hlb⟩
        · have q1 := U8 (⟨[]⟩ : Sl VNode) (show k < (sls ks).length by omega)
          (sym =>
           simp [con1w.eq_def,hlb,q1,Ut,Uw,Uv,Uu,szV,Ur,Up,Us,Uo,szN,Uq,Gi,Mj,Zb,Zc,Zd,Ze,Zf,Zg,Zo,Zp,Zq,Zt,Zv,Zy,Qb,Qd,Qq,Qs,Q1,Q2,Q4,Jh,Jx,Jy,Jz,J4,J5,J6,J7,J8,J9,Xa,Xb,X1,X2,X4,X5,X6,Wa,Wd,Wf,Wg,Wh,Wr,Ws,Wt,Wu,W6,W7,W8,W9,Yb,Yc,Yg,Yk,Y1,Y5,Y6,Y7,Y8,Vp,Vr,V4,V5,Uh,Ui,Uj,Uk,Ul,Um,U2,Kc,He]
           tactic =>
            try simp only [Uy] at *
            try simp only [nc2] at *
            try simp (maxSteps := 4000000) only [con1w.eq_def,hlb,q1,Ut,Uw,Uv,Uu,szV,Ur,Up,Us,Uo,szN,Uq,U1]
            repeat' (first | with_reducible assumption | with_reducible refine And.intro ?_ ?_ | intro _ | omega | (rw [Ux]; omega))
            all_goals first
              | (with_reducible refine Kh ?_; kernel_rfl)
              | omega
              | exact ⟨k + 1, by ((try simp only [Uz, killAll, setSlots, updAll, upd, U9, setCs, putC, Nat.reduceDiv, Nat.reduceMod, Nat.reduceMul, Nat.reduceAdd, Nat.reduceEqDiff, List.set_cons_zero, List.set_cons_succ, if_true, if_false, reduceIte]); (first | refine Wk.of_fl ?_ | skip); simp only [Wk, wkK, wkCs, wkT, wk1, AV.kept, keptAll, wkO, lk, wkObj, and_true, true_and, and_self, Nat.reduceEqDiff, Nat.reduceLeDiff, if_true, if_false, reduceIte, reduceCtorEq, Option.isSome, false_implies]; try simp [Wk, wkK, wkT, wk1, AV.kept, keptAll, wkO, lk, wkObj]), by omega, by omega⟩)
        · subst hR2
          (sym =>
           simp [con1w.eq_def,hlb,hx1,hy1,hR,Ut,Uw,Uv,Uu,szV,Ur,Up,Us,Uo,szN,Uq,Gi,G3,Zb,Zc,Ze,Zf,Zg,Qb,Qd,Qn,Qo,Qp,Qq,Qs,Q1,Q2,Q4,Q8,Jk,Jx,Jy,Jz,J4,J5,J6,J7,J8,J9,Xa,Xb,Xe,X2,X4,X5,X8,X9,Wa,Wd,Wf,Wg,Wr,Ws,Wt,Wu,W8,W9,Yb,Yc,Yg,Y5,Y6,Y7,Y8,Vr,Ui,Uj,Uk,U2]))
  | some l =>
    rw [hpr] at hR2
    simp only at hR2
    rw [Fl] at hR2
    have hll : l.length = ks.length := Pd hpr hk1
    have hpx : partsX x y = (⟨slsN l⟩, true) := by unfold partsX; rw [hks, hm, hpr]
    have hty := P8 hy.2 hpr
    have hsll : (slsN l).length = ks.length := by rw [Pu, hll]
    obtain ⟨P, hP⟩ : ∃ P : Nat → Bool, P = fun j => fitsR (ks.getD j dv) (l.getD j dynT) := ⟨_, rfl⟩
    rw [← hP] at hR2
    rcases h45 with h | h
    · have n4 : (m.kind != 4) = false := by rw [h]; rfl
      (sym =>
       simp [con1w.eq_def,hx1,hy1,hks,hsl,ev,et,k6,k7,n4,hpx,Ut,Uw,Uv,Uu,szV,Ur,Up,Us,Uo,szN,Uq,Gi,Ny,G3,Nz,con_FitsV.eq_def,con_SameT.eq_def,con_dynamicV.eq_def,con_isBaseV.eq_def,con_kidsV.eq_def,con_partsV.eq_def,Zb,Zc,Zd,Ze,Zf,Zg,Zo,Zp,Zq,Zs,Zt,Zv,Zx,Zy,Z6,Z8,Z9,Qb,Qd,Qe,Qf,Qg,Qq,Qs,Q1,Q2,Q4,Q8,Q9,Ja,Jf,Jh,Ji,Jj,Jl,Jw,J2,J3,J4,J5,J7,J8,Xa,Xb,Xe,Xm,Xn,Xs,Xu,Xw,X1,X2,X4,X5,X6,X7,Wa,Wd,Wf,Wg,Wh,Wr,Ws,Wt,Wu,Wv,Ww,Wx,Wy,W4,W5,W6,W7,W8,W9,Yc,Yg,Yk,Yr,Yu,Yw,Yy,Yz,Y4,Y5,Y6,Y9,Va,Vb,Vc,Vd,Ve,Vh,Vm,Vq,Vr,Vs,V4,V5,Ui,Uj,Uk,Ul,Um,U2,U3,Kb,Kc,Kd,He]
       tactic =>
        try simp only [Uy] at *
        try simp only [nc2] at *
        try simp (maxSteps := 4000000) only [con1w.eq_def,hx1,hy1,hks,hsl,ev,et,k6,k7,n4,hpx,Ut,Uw,Uv,Uu,szV,Ur,Up,Us,Uo,szN,Uq,U1]
        repeat' (first | with_reducible assumption | with_reducible refine And.intro ?_ ?_ | intro _ | omega | (rw [Ux]; omega))
        · exact ⟨y, hya⟩
        · exact ⟨x, hx⟩
        refine Ke [8, 9, 84, 85, 86, 87, 88, 89, 90, 91, 92, 93, 94, 95, 96, 97] (fun q : Nat × Bool => [(7, .d (.bool q.2)), (83, .d (.int .i64 q.1))]) (fun q : Nat × Bool => []) (fun q : Nat × Bool => q.1 ≤ ks.length ∧ q.2 = (List.range q.1).all P) (fun q : Nat × Bool => ks.length - q.1) (0, true) ?_ ?_ ?_
        · exact ⟨Nat.zero_le _, rfl⟩
        · ((try simp only [Uz, killAll, setSlots, updAll, upd, U9, setCs, putC, Nat.reduceDiv, Nat.reduceMod, Nat.reduceMul, Nat.reduceAdd, Nat.reduceEqDiff, List.set_cons_zero, List.set_cons_succ, if_true, if_false, reduceIte]); (first | refine Wk.of_fl ?_ | skip); simp only [Wk, wkK, wkCs, wkT, wk1, AV.kept, keptAll, wkO, lk, wkObj, and_true, true_and, and_self, Nat.reduceEqDiff, Nat.reduceLeDiff, if_true, if_false, reduceIte, reduceCtorEq, Option.isSome, false_implies]; try simp [Wk, wkK, wkT, wk1, AV.kept, keptAll, wkO, lk, wkObj])
        rintro ⟨k, b⟩ ⟨hk, hb⟩
        simp only at hk hb
        rcases Kf k ks.length with ⟨hlt, hlb⟩ | ⟨hlt, hlb⟩
        · have q1 := U8 (⟨[]⟩ : Sl VNode) (show k < (sls ks).length by omega)
          rw [Ij hlt] at q1
          have q2 := U8 (⟨[]⟩ : Sl Node) (show k < (slsN l).length by omega)
          rw [Dx (show k < l.length by omega)] at q2
          have hPk : P k = fitsR ks[k] (l[k]'(by omega)) := by rw [hP]; simp [hlt, show k < l.length by omega]
          have g1 := hsub hlt
          have g2 := hlen hlt
          have g3 := fun m hm => hS m (hmem hlt m hm)
          have g4 := Tf (hty _ (List.getElem_mem (show k < l.length by omega)))
          have g5 := L6 (p := P) (k := k)
          rw [← hb] at g5
          obtain ⟨z, hz⟩ : ∃ z, ks[k] = z := ⟨_, rfl⟩
          obtain ⟨w, hw⟩ : ∃ w, l[k]'(by omega) = w := ⟨_, rfl⟩
          rw [hz] at q1 g1 g2 g3 hPk
          rw [hw] at q2 g4 hPk
          have tz := g1.tree
          have tw := g4.tree
          cases b with
          | false =>
            rw [Bool.false_and] at g5
            (sym =>
             simp [con1w.eq_def,hlb,q1,q2,hsll,Ut,Uw,Uv,Uu,szV,Ur,Up,Us,Uo,szN,Uq,Gi,Mj,Zb,Zc,Zd,Ze,Zf,Zg,Zo,Zp,Zq,Zt,Zv,Zy,Qb,Qd,Qq,Qs,Q1,Q2,Q4,Jh,Jx,Jy,Jz,J4,J5,J6,J7,J8,J9,Xa,Xb,X1,X2,X4,X5,X6,Wa,Wd,Wf,Wg,Wh,Wr,Ws,Wt,Wu,W6,W7,W8,W9,Yb,Yc,Yg,Yk,Y1,Y5,Y6,Y7,Y8,Vp,Vr,V4,V5,Uh,Ui,Uj,Uk,Ul,Um,U2,Kc,He]
             tactic =>
              try simp only [Uy] at *
              try simp only [nc2] at *
              try simp (maxSteps := 4000000) only [con1w.eq_def,hlb,q1,q2,hsll,Ut,Uw,Uv,Uu,szV,Ur,Up,Us,Uo,szN,Uq,U1]
              repeat' (first | with_reducible assumption | with_reducible refine And.intro ?_ ?_ | intro _ | omega | (rw [Ux]; omega))
              all_goals first
                | (with_reducible refine Kh ?_; kernel_rfl)
                | omega
                | exact ⟨(k + 1, false), by ((try simp only [Uz, killAll, setSlots, updAll, upd, U9, setCs, putC, Nat.reduceDiv, Nat.reduceMod, Nat.reduceMul, Nat.reduceAdd, Nat.reduceEqDiff, List.set_cons_zero, List.set_cons_succ, if_true, if_false, reduceIte]); (first | refine Wk.of_fl ?_ | skip); simp only [Wk, wkK, wkCs, wkT, wk1, AV.kept, keptAll, wkO, lk, wkObj, and_true, true_and, and_self, Nat.reduceEqDiff, Nat.reduceLeDiff, if_true, if_false, reduceIte, reduceCtorEq, Option.isSome, false_implies]; try simp [Wk, wkK, wkT, wk1, AV.kept, keptAll, wkO, lk, wkObj]), by simp only; omega, g5.symm, by simp only; omega⟩)
          | true =>
            rw [Bool.true_and] at g5
            (sym =>
             simp [con1w.eq_def,hlb,q1,q2,hsll,tz,tw,Ut,Uw,Uv,Uu,szV,Ur,Up,Us,Uo,szN,Uq,Gi,Ny,G3,Nz,Mj,con_FitsV.eq_def,con_SameT.eq_def,con_dynamicV.eq_def,con_isBaseV.eq_def,con_kidsV.eq_def,con_partsV.eq_def,Zb,Zc,Zd,Ze,Zf,Zg,Zo,Zp,Zq,Zt,Zv,Zy,Z9,Qb,Qd,Qe,Qf,Qq,Qs,Q1,Q2,Q4,Q8,Jf,Jh,Jj,Jl,Jx,Jy,Jz,J4,J5,J6,J7,J8,J9,Xa,Xb,Xe,Xs,Xu,Xw,X1,X2,X4,X5,X6,Wa,Wd,Wf,Wg,Wh,Wr,Ws,Wt,Wu,Wv,Wx,Wy,W6,W7,W8,W9,Yb,Yc,Yg,Yk,Yw,Yy,Yz,Y1,Y4,Y5,Y6,Y7,Y8,Vh,Vm,Vp,Vr,Vs,V4,V5,Uh,Uj,Uk,Ul,Um,U2,U3,Kc,K7,He]
             tactic =>
              try simp only [Uy] at *
              try simp only [nc2] at *
              try simp (maxSteps := 4000000) only [con1w.eq_def,hlb,q1,q2,hsll,tz,tw,Ut,Uw,Uv,Uu,szV,Ur,Up,Us,Uo,szN,Uq,U1]
              repeat' (first | with_reducible assumption | with_reducible refine And.intro ?_ ?_ | intro _ | omega | (rw [Ux]; omega))
              all_goals first
                | (with_reducible refine Kh ?_; kernel_rfl)
                | omega
                | exact ⟨_, g1⟩
                | exact ⟨_, g4⟩
                | exact g3
                | exact ⟨(k + 1, P k), by rw [hPk]; ((try simp only [Uz, killAll, setSlots, updAll, upd, U9, setCs, putC, Nat.reduceDiv, Nat.reduceMod, Nat.reduceMul, Nat.reduceAdd, Nat.reduceEqDiff, List.set_cons_zero, List.set_cons_succ, if_true, if_false, reduceIte]); (first | refine Wk.of_fl ?_ | skip); simp only [Wk, wkK, wkCs, wkT, wk1, AV.kept, keptAll, wkO, lk, wkObj, and_true, true_and, and_self, Nat.reduceEqDiff, Nat.reduceLeDiff, if_true, if_false, reduceIte, reduceCtorEq, Option.isSome, false_implies]; try simp [Wk, wkK, wkT, wk1, AV.kept, keptAll, wkO, lk, wkObj]), by simp only; omega, g5.symm, by simp only; omega⟩
                | exact ⟨(k + 1, P k), by ((try simp only [Uz, killAll, setSlots, updAll, upd, U9, setCs, putC, Nat.reduceDiv, Nat.reduceMod, Nat.reduceMul, Nat.reduceAdd, Nat.reduceEqDiff, List.set_cons_zero, List.set_cons_succ, if_true, if_false, reduceIte]); (first | refine Wk.of_fl ?_ | skip); simp only [Wk, wkK, wkCs, wkT, wk1, AV.kept, keptAll, wkO, lk, wkObj, and_true, true_and, and_self, Nat.reduceEqDiff, Nat.reduceLeDiff, if_true, if_false, reduceIte, reduceCtorEq, Option.isSome, false_implies]; try simp [Wk, wkK, wkT, wk1, AV.kept, keptAll, wkO, lk, wkObj]), by simp only; omega, g5.symm, by simp only; omega⟩
                | skip)
        · have hkl : k = ks.length := by omega
          rw [hkl, hR2] at hb
          subst hb
          (sym =>
           simp [con1w.eq_def,hlb,hx1,hy1,hR,Ut,Uw,Uv,Uu,szV,Ur,Up,Us,Uo,szN,Uq,Gi,G3,Zb,Zc,Ze,Zf,Zg,Qb,Qd,Qn,Qo,Qp,Qq,Qs,Q1,Q2,Q4,Q8,Jk,Jx,Jy,Jz,J4,J5,J6,J7,J8,J9,Xa,Xb,Xe,X2,X4,X5,X8,X9,Wa,Wd,Wf,Wg,Wr,Ws,Wt,Wu,W8,W9,Yb,Yc,Yg,Y5,Y6,Y7,Y8,Vr,Ui,Uj,Uk,Ul,U2]))
    · have n4 : (m.kind != 4) = true := by rw [h]; rfl
      have n5 : (m.kind != 5) = false := by rw [h]; rfl
      (sym =>
       simp [con1w.eq_def,hx1,hy1,hks,hsl,ev,et,k6,k7,n4,n5,hpx,Ut,Uw,Uv,Uu,szV,Ur,Up,Us,Uo,szN,Uq,Gi,Ny,G3,Nz,con_FitsV.eq_def,con_SameT.eq_def,con_dynamicV.eq_def,con_isBaseV.eq_def,con_kidsV.eq_def,con_partsV.eq_def,Zb,Zc,Zd,Ze,Zf,Zg,Zo,Zp,Zq,Zs,Zt,Zv,Zx,Zy,Z6,Z8,Z9,Qb,Qd,Qe,Qf,Qg,Qq,Qs,Q1,Q2,Q4,Q8,Q9,Ja,Jf,Jh,Ji,Jj,Jl,Jw,J2,J3,J4,J5,J7,J8,Xa,Xb,Xe,Xm,Xn,Xs,Xu,Xw,X1,X2,X4,X5,X6,X7,Wa,Wd,Wf,Wg,Wh,Wr,Ws,Wt,Wu,Wv,Ww,Wx,Wy,W4,W5,W6,W7,W8,W9,Yc,Yg,Yk,Yr,Yu,Yw,Yy,Yz,Y4,Y5,Y6,Y9,Va,Vb,Vc,Vd,Ve,Vh,Vm,Vq,Vr,Vs,V4,V5,Uh,Ui,Uj,Uk,Ul,Um,U2,U3,Kb,Kc,Kd,He]
       tactic =>
        try simp only [Uy] at *
        try simp only [nc2] at *
        try simp (maxSteps := 4000000) only [con1w.eq_def,hx1,hy1,hks,hsl,ev,et,k6,k7,n4,n5,hpx,Ut,Uw,Uv,Uu,szV,Ur,Up,Us,Uo,szN,Uq,U1]
        repeat' (first | with_reducible assumption | with_reducible refine And.intro ?_ ?_ | intro _ | omega | (rw [Ux]; omega))
        · exact ⟨y, hya⟩
        · exact ⟨x, hx⟩
        refine Ke [8, 9, 84, 85, 86, 87, 88, 89, 90, 91, 92, 93, 94, 95, 96, 97] (fun q : Nat × Bool => [(7, .d (.bool q.2)), (83, .d (.int .i64 q.1))]) (fun q : Nat × Bool => []) (fun q : Nat × Bool => q.1 ≤ ks.length ∧ q.2 = (List.range q.1).all P) (fun q : Nat × Bool => ks.length - q.1) (0, true) ?_ ?_ ?_
        · exact ⟨Nat.zero_le _, rfl⟩
        · ((try simp only [Uz, killAll, setSlots, updAll, upd, U9, setCs, putC, Nat.reduceDiv, Nat.reduceMod, Nat.reduceMul, Nat.reduceAdd, Nat.reduceEqDiff, List.set_cons_zero, List.set_cons_succ, if_true, if_false, reduceIte]); (first | refine Wk.of_fl ?_ | skip); simp only [Wk, wkK, wkCs, wkT, wk1, AV.kept, keptAll, wkO, lk, wkObj, and_true, true_and, and_self, Nat.reduceEqDiff, Nat.reduceLeDiff, if_true, if_false, reduceIte, reduceCtorEq, Option.isSome, false_implies]; try simp [Wk, wkK, wkT, wk1, AV.kept, keptAll, wkO, lk, wkObj])
        rintro ⟨k, b⟩ ⟨hk, hb⟩
        simp only at hk hb
        rcases Kf k ks.length with ⟨hlt, hlb⟩ | ⟨hlt, hlb⟩
        · have q1 := U8 (⟨[]⟩ : Sl VNode) (show k < (sls ks).length by omega)
          rw [Ij hlt] at q1
          have q2 := U8 (⟨[]⟩ : Sl Node) (show k < (slsN l).length by omega)
          rw [Dx (show k < l.length by omega)] at q2
          have hPk : P k = fitsR ks[k] (l[k]'(by omega)) := by rw [hP]; simp [hlt, show k < l.length by omega]
          have g1 := hsub hlt
          have g2 := hlen hlt
          have g3 := fun m hm => hS m (hmem hlt m hm)
          have g4 := Tf (hty _ (List.getElem_mem (show k < l.length by omega)))
          have g5 := L6 (p := P) (k := k)
          rw [← hb] at g5
          obtain ⟨z, hz⟩ : ∃ z, ks[k] = z := ⟨_, rfl⟩
          obtain ⟨w, hw⟩ : ∃ w, l[k]'(by omega) = w := ⟨_, rfl⟩
          rw [hz] at q1 g1 g2 g3 hPk
          rw [hw] at q2 g4 hPk
          have tz := g1.tree
          have tw := g4.tree
          cases b with
          | false =>
            rw [Bool.false_and] at g5
            (sym =>
             simp [con1w.eq_def,hlb,q1,q2,hsll,Ut,Uw,Uv,Uu,szV,Ur,Up,Us,Uo,szN,Uq,Gi,Mj,Zb,Zc,Zd,Ze,Zf,Zg,Zo,Zp,Zq,Zt,Zv,Zy,Qb,Qd,Qq,Qs,Q1,Q2,Q4,Jh,Jx,Jy,Jz,J4,J5,J6,J7,J8,J9,Xa,Xb,X1,X2,X4,X5,X6,Wa,Wd,Wf,Wg,Wh,Wr,Ws,Wt,Wu,W6,W7,W8,W9,Yb,Yc,Yg,Yk,Y1,Y5,Y6,Y7,Y8,Vp,Vr,V4,V5,Uh,Ui,Uj,Uk,Ul,Um,U2,Kc,He]
             tactic =>
              try simp only [Uy] at *
              try simp only [nc2] at *
              try simp (maxSteps := 4000000) only [con1w.eq_def,hlb,q1,q2,hsll,Ut,Uw,Uv,Uu,szV,Ur,Up,Us,Uo,szN,Uq,U1]
              repeat' (first | with_reducible assumption | with_reducible refine And.intro ?_ ?_ | intro _ | omega | (rw [Ux]; omega))
              all_goals first
                | (with_reducible refine Kh ?_; kernel_rfl)
                | omega
                | exact ⟨(k + 1, false), by ((try simp only [Uz, killAll, setSlots, updAll, upd, U9, setCs, putC, Nat.reduceDiv, Nat.reduceMod, Nat.reduceMul, Nat.reduceAdd, Nat.reduceEqDiff, List.set_cons_zero, List.set_cons_succ, if_true, if_false, reduceIte]); (first | refine Wk.of_fl ?_ | skip); simp only [Wk, wkK, wkCs, wkT, wk1, AV.kept, keptAll, wkO, lk, wkObj, and_true, true_and, and_self, Nat.reduceEqDiff, Nat.reduceLeDiff, if_true, if_false, reduceIte, reduceCtorEq, Option.isSome, false_implies]; try simp [Wk, wkK, wkT, wk1, AV.kept, keptAll, wkO, lk, wkObj]), by simp only; omega, g5.symm, by simp only; omega⟩)
          | true =>
            rw [Bool.true_and] at g5
            (sym =>
             simp [con1w.eq_def,hlb,q1,q2,hsll,tz,tw,Ut,Uw,Uv,Uu,szV,Ur,Up,Us,Uo,szN,Uq,Gi,Ny,G3,Nz,Mj,con_FitsV.eq_def,con_SameT.eq_def,con_dynamicV.eq_def,con_isBaseV.eq_def,con_kidsV.eq_def,con_partsV.eq_def,Zb,Zc,Zd,Ze,Zf,Zg,Zo,Zp,Zq,Zt,Zv,Zy,Z9,Qb,Qd,Qe,Qf,Qq,Qs,Q1,Q2,Q4,Q8,Jf,Jh,Jj,Jl,Jx,Jy,Jz,J4,J5,J6,J7,J8,J9,Xa,Xb,Xe,Xs,Xu,Xw,X1,X2,X4,X5,X6,Wa,Wd,Wf,Wg,Wh,Wr,Ws,Wt,Wu,Wv,Wx,Wy,W6,W7,W8,W9,Yb,Yc,Yg,Yk,Yw,Yy,Yz,Y1,Y4,Y5,Y6,Y7,Y8,Vh,Vm,Vp,Vr,Vs,V4,V5,Uh,Uj,Uk,Ul,Um,U2,U3,Kc,K7,He]
             tactic =>
              try simp only [Uy] at *
              try simp only [nc2] at *
              try simp (maxSteps := 4000000) only [con1w.eq_def,hlb,q1,q2,hsll,tz,tw,Ut,Uw,Uv,Uu,szV,Ur,Up,Us,Uo,szN,Uq,U1]
              repeat' (first | with_reducible assumption | with_reducible refine And.intro ?_ ?_ | intro _ | omega | (rw [Ux]; omega))
              all_goals first
                | (with_reducible refine Kh ?_; kernel_rfl)
                | omega
                | exact ⟨_, g1⟩
                | exact ⟨_, g4⟩
                | exact g3
                | exact ⟨(k + 1, P k), by rw [hPk]; ((try simp only [Uz, killAll, setSlots, updAll, upd, U9, setCs, putC, Nat.reduceDiv, Nat.reduceMod, Nat.reduceMul, Nat.reduceAdd, Nat.reduceEqDiff, List.set_cons_zero, List.set_cons_succ, if_true, if_false, reduceIte]); (first | refine Wk.of_fl ?_ | skip); simp only [Wk, wkK, wkCs, wkT, wk1, AV.kept, keptAll, wkO, lk, wkObj, and_true, true_and, and_self, Nat.reduceEqDiff, Nat.reduceLeDiff, if_true, if_false, reduceIte, reduceCtorEq, Option.isSome, false_implies]; try simp [Wk, wkK, wkT, wk1, AV.kept, keptAll, wkO, lk, wkObj]), by simp only; omega, g5.symm, by simp only; omega⟩
                | exact ⟨(k + 1, P k), by ((try simp only [Uz, killAll, setSlots, updAll, upd, U9, setCs, putC, Nat.reduceDiv, Nat.reduceMod, Nat.reduceMul, Nat.reduceAdd, Nat.reduceEqDiff, List.set_cons_zero, List.set_cons_succ, if_true, if_false, reduceIte]); (first | refine Wk.of_fl ?_ | skip); simp only [Wk, wkK, wkCs, wkT, wk1, AV.kept, keptAll, wkO, lk, wkObj, and_true, true_and, and_self, Nat.reduceEqDiff, Nat.reduceLeDiff, if_true, if_false, reduceIte, reduceCtorEq, Option.isSome, false_implies]; try simp [Wk, wkK, wkT, wk1, AV.kept, keptAll, wkO, lk, wkObj]), by simp only; omega, g5.symm, by simp only; omega⟩
                | skip)
        · have hkl : k = ks.length := by omega
          rw [hkl, hR2] at hb
          subst hb
          (sym =>
           simp [con1w.eq_def,hlb,hx1,hy1,hR,Ut,Uw,Uv,Uu,szV,Ur,Up,Us,Uo,szN,Uq,Gi,G3,Zb,Zc,Ze,Zf,Zg,Qb,Qd,Qn,Qo,Qp,Qq,Qs,Q1,Q2,Q4,Q8,Jk,Jx,Jy,Jz,J4,J5,J6,J7,J8,J9,Xa,Xb,Xe,X2,X4,X5,X8,X9,Wa,Wd,Wf,Wg,Wr,Ws,Wt,Wu,W8,W9,Yb,Yc,Yg,Y5,Y6,Y7,Y8,Vr,Ui,Uj,Uk,Ul,U2]))
theorem Ow : ∀ n, Good Try.prog (34, con_FitsV n)
  | 0 => Bd (U0 Try.func34 (by kernel_rfl) rfl) con_FitsV_zero
  | n + 1 => step_FitsV n (Ow n)
end Go.Am.Ty
set_option linter.unusedSimpArgs false
set_option linter.unusedVariables false
set_option maxHeartbeats 2000000
namespace Go.Am.Ty
open Go.Proofs Go.Rose Go.Rose.Rose
open Enc (enc dec)
theorem D1 : ∀ x : Rose VNode, (nds (plainR x)).length ≤ (nds x).length
  | mk n ks => by
    rw [plainR]
    cases isFunB n with
    | true => simp [nds, ndss]
    | false =>
      simp only [cond_false, K6, List.length_cons]
      have := plains_len ks
      omega
where plains_len : ∀ ks : List (Rose VNode), (ndss (plainRs ks)).length ≤ (ndss ks).length
  | [] => Nat.le_refl _
  | k :: ks => by
    rw [plainRs, ndss, ndss, List.length_append, List.length_append]
    have := D1 k
    have := plains_len ks
    omega
theorem Ad : ∀ ks : List (Rose VNode), flat (sls ks) = ndss ks
  | [] => rfl
  | k :: ks => by
    have := Ad ks
    unfold flat sls at *
    rw [List.map_cons, List.flatMap_cons, this, ndss]
def mixT (f : Nat → Rose VNode) (ks : List (Rose VNode)) (k : Nat) : List (Rose VNode) := (List.range k).map f ++ ks.drop k
theorem mixT_zero {f : Nat → Rose VNode} {ks : List (Rose VNode)} : mixT f ks 0 = ks := by simp [mixT]
theorem mixT_all {f : Nat → Rose VNode} {ks : List (Rose VNode)} : mixT f ks ks.length = (List.range ks.length).map f := by simp [mixT]
theorem Ro {f : Nat → Rose VNode} {ks : List (Rose VNode)} {k : Nat} (h : k ≤ ks.length) : (mixT f ks k).length = ks.length := by simp [mixT]; omega
theorem mixT_at {f : Nat → Rose VNode} {ks : List (Rose VNode)} {k : Nat} (h : k < ks.length) : (mixT f ks k)[k]'(by rw [Ro (by omega)]; exact h) = ks[k] := by
  simp [mixT,List.getElem_append_right]
theorem mixT_set {f : Nat → Rose VNode} {ks : List (Rose VNode)} {k : Nat} (h : k < ks.length) : (mixT f ks k).set k (f k) = mixT f ks (k + 1) := by
  unfold mixT
  rw [List.set_append_right _ _ (by simp), List.length_map, List.length_range, Nat.sub_self, List.drop_eq_getElem_cons h, List.set_cons_zero, List.range_succ, List.map_append, List.append_assoc]
  rfl
theorem sls_set {ks : List (Rose VNode)} {k : Nat} {y : Rose VNode} : ((sls ks).map (enc : Sl VNode → D)).set k (enc (Sl.mk (nds y))) = (sls (ks.set k y)).map enc := by
  unfold sls
  rw [List.map_set, List.map_set]
theorem map_range {ks : List (Rose VNode)} {f : Rose VNode → Rose VNode} : (List.range ks.length).map (fun j => f (ks.getD j dv)) = ks.map f := by
  refine List.ext_getElem (by simp) fun j h1 h2 => ?_
  simp at h1
  simp [h1]
noncomputable def con_PlainV (n : Nat) : Con := con1 (fun (v : Sl VNode) => v.l.length ≤ 1000000 ∧ (∃ x, OneV v.l x) ∧ v.l.length < n) (fun v => Sl.mk (nds (plainR (treeAt arV v.l 0))))
theorem con_PlainV_zero : ∀ c, ¬ (con_PlainV 0).pre c := by
  intro c h
  unfold con_PlainV at h
  obtain ⟨_, _, _, _, h⟩ := K1 h
  omega
noncomputable def ctx_PlainV (n : Nat) : Ctx := ⟨tab, lkC [(66, con_isFunV), (65, con_kidsV), (68, con_joinedV), (39, (con_PlainV n))], 60, lkB [], [], false⟩
theorem Li (n : Nat) : (ctx_PlainV n).τ = tab := rfl
theorem Lk (n : Nat) : (ctx_PlainV n).Γ = lkC [(66, con_isFunV), (65, con_kidsV), (68, con_joinedV), (39, (con_PlainV n))] := rfl
theorem Lj (n : Nat) : (ctx_PlainV n).dp = 60 := rfl
theorem Ll (n : Nat) : (ctx_PlainV n).Δ = lkB [] := rfl
theorem ctx_PlainV_w (n : Nat) : (ctx_PlainV n).wr = false := rfl
set_option maxRecDepth 100000 in
theorem step_PlainV (n : Nat) (ih : Good Try.prog (39, con_PlainV n)) : Good Try.prog (39, (con_PlainV (n + 1))) := by
  refine ⟨U0 Try.func39 (by kernel_rfl) rfl, ?_⟩
  have K : CtxOk Try.prog (ctx_PlainV n) := U4 Ki Ka (by
    intro p hp
    simp only [List.mem_cons, List.not_mem_nil, or_false] at hp
    rcases hp with rfl | rfl | rfl | rfl
    · exact O0
    · exact Cb
    · exact Cc
    · exact ih) (by simp)
  obtain ⟨c, hc⟩ : ∃ c, Try.f39.body = some c := ⟨_, rfl⟩
  refine U5 K Try.func39 hc [.tmp 2] rfl 34 rfl (fun cvs hpre => ?_)
  change (con_PlainV (n + 1)).pre cvs at hpre
  unfold con_PlainV at hpre
  obtain ⟨⟨v⟩, rfl, hv, ⟨x, hx⟩, hn⟩ := K1 hpre
  simp only at hv hx hn
  have hx1 := hx.tree
  have hxl := hx.at.lt
  have ev := U8 v0 hxl
  have hro := hx.at.root v0
  rw [hro] at ev
  have hpl := D1 x
  rw [← hx.1] at hpl
  obtain ⟨R, hR⟩ : ∃ R, plainR x = R := ⟨_, rfl⟩
  have hR2 := hR
  rw [show x = mk x.root x.kids by cases x; rfl, plainR] at hR2
  rw [hR] at hpl
  have hsub := @oneV_sub x hx.2
  have hlen := @Ru x
  rw [← hx.1] at hlen
  have hkl := D4 x.kids
  have hvl : v.length = 1 + (ndss x.kids).length := by rw [hx.1, Gx, List.length_cons]; omega
  obtain ⟨ks, hks⟩ : ∃ ks, x.kids = ks := ⟨_, rfl⟩
  rw [hks] at hR2 hkl hvl
  simp only [hks] at hsub hlen
  have hsl : (sls ks).length = ks.length := Mn
  obtain ⟨m, hm⟩ : ∃ m, x.root = m := ⟨_, rfl⟩
  rw [hm] at ev hR2 hro
  clear hpre
  simp only [Try.f39, Option.some.injEq] at hc
  subst hc
  refine Kl 2 (of_decide_eq_true (by kernel_rfl)) ?_
  cases hf : isFunB m with
  | true =>
    rw [hf, cond_true] at hR2
    have hR3 : nds R = [VNode.mk 6 m.label [] 0 0 [] []] := by rw [← hR2]; rfl
    (sym =>
     simp [hx1,ev,hro,hf,hR,hR3,Bf,Bb,Ut,Uw,Uv,Uu,szV,Li,Lk,Lj,Ll,con_PlainV.eq_def,con_isFunV.eq_def,con_joinedV.eq_def,con_kidsV.eq_def,Zb,Zc,Ze,Zf,Zn,Zo,Zp,Zq,Zr,Zs,Zv,Zx,Zy,Z1,Z2,Z9,Qe,Qf,Qh,Ql,Qn,Qo,Qp,Qq,Qs,Q1,Q2,Q4,Q7,Q8,Ja,Jb,Jc,Jd,Je,Jf,Jg,Jh,Ji,Jj,Jk,Jl,Jw,J2,J3,J4,J5,J7,Xa,Xc,Xd,Xe,Xf,Xg,Xi,Xk,Xl,Xm,Xn,Xq,Xt,Xu,X2,X4,X5,X9,Wa,Wd,Wf,Wg,Wh,Wj,Wl,Wr,Ws,Wt,Wu,Wv,Ww,Wx,Wy,Wz,W0,W3,W4,W5,W6,W7,W8,W9,Yc,Yk,Yl,Ym,Yo,Ys,Yu,Yw,Yy,Yz,Y5,Y6,Y7,Y8,Y9,Va,Vb,Vc,Vd,Ve,Vh,Vm,Vq,Vr,Vs,V3,V4,V7,V9,Ua,Ub,Uh,Uj,Uk,Um,Gr,Kc,Kd]
     tactic =>
      try simp only [Uy] at *
      try simp only [nc2] at *
      try simp (maxSteps := 4000000) only [hx1,ev,hro,hf,hR,hR3,Bf,Bb,Ut,Uw,Uv,Uu,szV,U1]
      repeat' (first | with_reducible assumption | with_reducible refine And.intro ?_ ?_ | intro _ | omega | (rw [Ux]; omega))
      all_goals first
        | omega
        | rfl
        | skip)
  | false =>
    rw [hf, cond_false] at hR2
    obtain ⟨f, hF⟩ : ∃ f : Nat → Rose VNode, f = fun j => plainR (ks.getD j dv) := ⟨_, rfl⟩
    have hall : mixT f ks ks.length = plainRs ks := by rw [mixT_all, hF, map_range, H7]
    (sym =>
     simp [con1w.eq_def,hx1,ev,hro,hf,hks,hsl,Ut,Uw,Uv,Uu,szV,Li,Lk,Lj,Ll,con_PlainV.eq_def,con_isFunV.eq_def,con_joinedV.eq_def,con_kidsV.eq_def,Zb,Zc,Ze,Zf,Zn,Zo,Z6,Z9,Qe,Qf,Qq,Qs,Q1,Q2,Q4,Q8,Jf,Jh,Ji,Jj,Jl,Jw,J2,J3,J4,J5,J7,J8,Xa,Xb,Xe,Xm,Xn,Xt,Xu,X1,X2,X4,X5,X6,X7,Wa,Wd,Wf,Wg,Wh,Wr,Ws,Wt,Wu,Wv,Ww,Wx,Wy,W4,W5,W8,W9,Yw,Y4,Y5,Y6,Y9,Va,Vb,Vc,Vd,Ve,Vh,Vm,Vr,Vs,V4,V7,Ui,Uj,Uk,Ul,Um,Kc,Kd,He]
     tactic =>
      try simp only [Uy] at *
      try simp only [nc2] at *
      try simp (maxSteps := 4000000) only [con1w.eq_def,hx1,ev,hro,hf,hks,hsl,Ut,Uw,Uv,Uu,szV,U1]
      repeat' (first | with_reducible assumption | with_reducible refine And.intro ?_ ?_ | intro _ | omega | (rw [Ux]; omega))
      · exact ⟨x, hx⟩
      refine Ke [4, 5, 19, 20, 21, 22, 23, 24, 25, 26, 27, 28] (fun k : Nat => [(3, .sl 15 ((sls (mixT f ks k)).map (enc : Sl VNode → D)).length), (16, .sl 15 ((sls (mixT f ks k)).map (enc : Sl VNode → D)).length), (18, .d (.int .i64 k))]) (fun k : Nat => [(15, .row 1 ((sls (mixT f ks k)).map enc) 0)]) (fun k : Nat => k ≤ ks.length) (fun k : Nat => ks.length - k) 0 ?_ ?_ ?_
      · omega
      · ((try simp only [Uz, killAll, setSlots, updAll, upd, U9, setCs, putC, Nat.reduceDiv, Nat.reduceMod, Nat.reduceMul, Nat.reduceAdd, Nat.reduceEqDiff, List.set_cons_zero, List.set_cons_succ, if_true, if_false, reduceIte]); (first | refine Wk.of_fl ?_ | skip); simp only [Wk, wkK, wkCs, wkT, wk1, AV.kept, keptAll, wkO, lk, wkObj, and_true, true_and, and_self, Nat.reduceEqDiff, Nat.reduceLeDiff, if_true, if_false, reduceIte, reduceCtorEq, Option.isSome, false_implies]; try simp [Wk, wkK, wkT, wk1, AV.kept, keptAll, wkO, lk, wkObj, mixT_zero, hsl])
      rintro k hk
      have hml : (sls (mixT f ks k)).length = ks.length := by rw [Mn, Ro hk]
      rcases Kf k ks.length with ⟨hlt, hlb⟩ | ⟨hlt, hlb⟩
      · have q1 := U8 (⟨[]⟩ : Sl VNode) (show k < (sls (mixT f ks k)).length by omega)
        rw [Ij (by rw [Ro hk]; exact hlt), mixT_at hlt] at q1
        have hset := sls_set (ks := mixT f ks k) (k := k) (y := f k)
        rw [mixT_set hlt] at hset
        have hfk : f k = plainR ks[k] := by rw [hF]; simp [hlt]
        have g1 := hsub hlt
        have g2 := hlen hlt
        have hml2 : (sls (mixT f ks (k + 1))).length = ks.length := by rw [Mn, Ro (by omega)]
        obtain ⟨z, hz⟩ : ∃ z, ks[k] = z := ⟨_, rfl⟩
        rw [hz] at q1 g1 g2 hfk
        have tz := g1.tree
        rw [hfk] at hset
        (sym =>
         simp [con1w.eq_def,hlb,hml,q1,tz,hset,Ut,Uw,Uv,Uu,szV,Li,Lk,Lj,Ll,ctx_PlainV_w,con_PlainV.eq_def,con_isFunV.eq_def,con_joinedV.eq_def,con_kidsV.eq_def,Zb,Zc,Ze,Zf,Zg,Zo,Zp,Zq,Zv,Zw,Zy,Z9,Qb,Qd,Qe,Qf,Qq,Qs,Q1,Q2,Q4,Q8,Jf,Jh,Ji,Jj,Jl,Jx,Jy,Jz,J4,J5,J7,J8,Xa,Xb,Xe,Xt,Xu,X1,X2,X4,X5,X6,Wa,Wd,Wf,Wg,Wh,Wr,Ws,Wt,Wu,Wv,Wx,Wy,W8,W9,Yb,Yc,Yg,Yk,Y0,Y1,Y5,Y6,Vh,Vm,Vp,Vr,Vs,V0,V4,Uh,Uj,Uk,Ul,Um,U2,Kc,He]
         tactic =>
          try simp only [Uy] at *
          try simp only [nc2] at *
          try simp (maxSteps := 4000000) only [con1w.eq_def,hlb,hml,q1,tz,hset,Ut,Uw,Uv,Uu,szV,U1]
          repeat' (first | with_reducible assumption | with_reducible refine And.intro ?_ ?_ | intro _ | omega | (rw [Ux]; omega))
          all_goals first
            | (with_reducible refine Kh ?_; kernel_rfl)
            | omega
            | exact ⟨_, g1⟩
            | exact ⟨k + 1, by ((try simp only [Uz, killAll, setSlots, updAll, upd, U9, setCs, putC, Nat.reduceDiv, Nat.reduceMod, Nat.reduceMul, Nat.reduceAdd, Nat.reduceEqDiff, List.set_cons_zero, List.set_cons_succ, if_true, if_false, reduceIte]); (first | refine Wk.of_fl ?_ | skip); simp only [Wk, wkK, wkCs, wkT, wk1, AV.kept, keptAll, wkO, lk, wkObj, and_true, true_and, and_self, Nat.reduceEqDiff, Nat.reduceLeDiff, if_true, if_false, reduceIte, reduceCtorEq, Option.isSome, false_implies]; try simp [Wk, wkK, wkT, wk1, AV.kept, keptAll, wkO, lk, wkObj, hml, hml2]), by omega, by omega⟩
            | skip)
      · have hkl2 : k = ks.length := by omega
        subst hkl2
        rw [hall] at *
        have hfl := Ad (plainRs ks)
        have hR3 : nds R = m :: ndss (plainRs ks) := by rw [← hR2, K6]
        rw [hR3, List.length_cons] at hpl
        have hpl2 : (sls (plainRs ks)).length ≤ 1000000 := by rw [hml]; omega
        (sym =>
         simp [con1w.eq_def,hlb,hml,ev,hx1,hR,hR3,hfl,Ut,Uw,Uv,Uu,szV,Li,Lk,Lj,Ll,con_PlainV.eq_def,con_isFunV.eq_def,con_joinedV.eq_def,con_kidsV.eq_def,Zb,Zc,Ze,Zf,Zg,Zo,Zp,Zq,Zv,Zy,Z9,Qb,Qd,Qe,Qf,Qn,Qo,Qp,Qq,Qs,Q1,Q2,Q4,Q8,Jf,Jh,Ji,Jj,Jk,Jl,Jx,Jy,Jz,J4,J5,J6,J7,J8,J9,Xa,Xb,Xe,Xg,Xo,Xt,Xu,X2,X4,X5,X8,X9,Wa,Wd,Wf,Wg,Wh,Wr,Ws,Wt,Wu,Wv,Wx,Wy,W8,W9,Yb,Yc,Yg,Yk,Yy,Yz,Y5,Y6,Y7,Y8,Vi,Vj,Vq,Vr,Vs,V4,Ui,Uj,Uk,Um,U2,Kc,Kd]
         tactic =>
          try simp only [Uy] at *
          try simp only [nc2] at *
          try simp (maxSteps := 4000000) only [con1w.eq_def,hlb,hml,ev,hx1,hR,hR3,hfl,Ut,Uw,Uv,Uu,szV,U1]
          repeat' (first | with_reducible assumption | with_reducible refine And.intro ?_ ?_ | intro _ | omega | (rw [Ux]; omega))
          all_goals first
            | (with_reducible refine Kh ?_; kernel_rfl)
            | omega
            | skip))
theorem Rz : ∀ n, Good Try.prog (39, con_PlainV n)
  | 0 => Bd (U0 Try.func39 (by kernel_rfl) rfl) con_PlainV_zero
  | n + 1 => step_PlainV n (Rz n)
end Go.Am.Ty
set_option linter.unusedSimpArgs false
set_option linter.unusedVariables false
set_option maxHeartbeats 4000000
namespace Go.Am.Ty
open Go.Proofs Go.Rose Go.Rose.Rose
open Enc (enc dec)
theorem fun_len {lab : Int} {x y : Rose VNode} {t u : Rose Node} (h : funR lab x t u = some y) : (nds y).length ≤ 2 * (nds x).length := by
  unfold funR at h
  have hp := K8 x
  cases h1 : ((arrR u).root.kind == 5) with
  | false => rw [h1, cond_false] at h; cases h
  | true =>
    rw [h1, cond_true] at h
    cases h2 : same3 (nds (arrR t)) (nds (arrR u)) with
    | true => rw [h2, cond_true] at h; injection h with h; subst h; omega
    | false =>
      rw [h2, cond_false] at h
      injection h with h
      rw [← h, wrapT, K6, ndss, ndss, List.append_nil, Fd, List.length_cons, relabL_len]
      omega
mutual
theorem cast_len {lab : Int} : ∀ {x y : Rose VNode} {t u : Rose Node}, castR lab x t u = some y → (nds y).length ≤ 2 * (nds x).length
  | mk n ks, y, t, u, h => by
    rw [castR] at h
    have hp := K8 (mk n ks)
    cases h1 : same3 (nds t) (nds u) with
    | true => rw [h1, cond_true] at h; injection h with h; subst h; omega
    | false =>
      rw [h1, cond_false] at h
      cases h2 : isFunB n with
      | true => rw [h2, cond_true] at h; exact fun_len h
      | false =>
        rw [h2, cond_false] at h
        cases h3 : (n.kind == 4 || n.kind == 5) with
        | false =>
          rw [h3, cond_false] at h
          cases h4 : (!(u.root.kind == 0) && !isBaseB n u.root.kind) with
          | true => rw [h4, cond_true] at h; cases h
          | false => rw [h4, cond_false] at h; injection h with h; subst h; omega
        | true =>
          rw [h3, cond_true] at h
          cases ha : partsR n ks t with
          | none => rw [ha] at h; cases h
          | some a =>
            cases hb : partsR n ks u with
            | none => rw [ha, hb] at h; cases h
            | some b =>
              rw [ha, hb] at h
              simp only [Option.map_eq_some_iff] at h
              obtain ⟨ys, g1, rfl⟩ := h
              have := casts_len g1
              rw [K6, K6, List.length_cons, List.length_cons]
              omega
theorem casts_len {lab : Int} : ∀ {ks ys : List (Rose VNode)} {a b : List (Rose Node)}, castRs lab ks a b = some ys → (ndss ys).length ≤ 2 * (ndss ks).length
  | [], ys, a, b, h => by
    rw [castRs] at h
    injection h with h
    rw [← h]
    simp [ndss]
  | k :: ks, ys, a, b, h => by
    rw [castRs] at h
    cases hk : castR lab k (a.headD dynT) (b.headD dynT) with
    | none => rw [hk] at h; cases h
    | some y =>
      rw [hk] at h
      simp only [Option.map_eq_some_iff] at h
      obtain ⟨zs, h1, rfl⟩ := h
      have := cast_len hk
      have := casts_len h1
      rw [ndss, ndss, List.length_append, List.length_append]
      omega
end
def optX (o : Option (Rose VNode)) : Sl VNode × Bool := match o with
  | some y => (⟨nds y⟩, true)
  | none => (⟨[]⟩, false)
theorem funL_eq {lab : Int} {x : Rose VNode} {t u : Rose Node} : funL (nds x) (nds t) (nds u) lab = optX (funR lab x t u) := by
  have ha : ∀ t : Rose Node, arrOr (nds t) = nds (arrR t) := fun t => by
    unfold arrOr arrR
    rw [show (nds t).getD 0 n0 = t.root by rw [Gx]; rfl]
    cases t.root.kind == 0 with
    | true => rfl
    | false => rfl
  have hr : ∀ t : Rose Node, (nds t).getD 0 n0 = t.root := fun t => by rw [Gx]; rfl
  unfold funL funR
  rw [ha, ha, hr]
  cases (arrR u).root.kind == 5 with
  | false => rfl
  | true =>
    simp only [cond_true]
    cases same3 (nds (arrR t)) (nds (arrR u)) with
    | true => rfl
    | false =>
      simp only [cond_false, optX]
      have : (nds x).getD 0 v0 = x.root := by rw [Gx]; rfl
      unfold wrapL wrapT
      rw [this, K6, ndss, ndss, List.append_nil, Fd]
noncomputable def con_CastV (n : Nat) : Con := con4t (fun (v : Sl VNode) (t u : Sl Node) (_ : Int) => v.l.length ≤ 100000 ∧ (∃ x, OneV v.l x) ∧ (∃ y, OneN t.l y) ∧ (∃ z, OneN u.l z) ∧ v.l.length < n) (fun v t u lab => optX (castR lab (treeAt arV v.l 0) (treeAt ar t.l 0) (treeAt ar u.l 0)))
theorem con_CastV_zero : ∀ c, ¬ (con_CastV 0).pre c := by
  intro c h
  unfold con_CastV at h
  obtain ⟨_, _, _, _, _, _, _, _, _, h⟩ := Od h
  omega
theorem mix_set {ys ks : List (Rose VNode)} {k : Nat} {y : Rose VNode} (h : k < ks.length) (hy : ys.length = k) : (ys ++ ks.drop k).set k y = (ys ++ [y]) ++ ks.drop (k + 1) := by
  rw [List.set_append_right _ _ (by omega), hy, Nat.sub_self, List.drop_eq_getElem_cons h, List.set_cons_zero, List.append_assoc]
  rfl
theorem T6 {ys ks : List (Rose VNode)} {k : Nat} (h : k ≤ ks.length) (hy : ys.length = k) : (ys ++ ks.drop k).length = ks.length := by
  rw [List.length_append, List.length_drop, hy]; omega
theorem mix_at {ys ks : List (Rose VNode)} {k : Nat} (h : k < ks.length) (hy : ys.length = k) : (ys ++ ks.drop k)[k]'(by rw [T6 (by omega) hy]; exact h) = ks[k] := by
  rw [List.getElem_append_right (by omega)]
  simp [hy]
noncomputable def ctx_CastV (n : Nat) : Ctx := ⟨tab, lkC [(59, con_SameT), (66, con_isFunV), (67, con_functionV), (63, con_isBaseV), (64, con_partsV), (65, con_kidsV), (68, con_joinedV), (35, (con_CastV n))], 60, lkB [], [], false⟩
theorem Gj (n : Nat) : (ctx_CastV n).τ = tab := rfl
theorem Gl (n : Nat) : (ctx_CastV n).Γ = lkC [(59, con_SameT), (66, con_isFunV), (67, con_functionV), (63, con_isBaseV), (64, con_partsV), (65, con_kidsV), (68, con_joinedV), (35, (con_CastV n))] := rfl
theorem Gk (n : Nat) : (ctx_CastV n).dp = 60 := rfl
theorem Gm (n : Nat) : (ctx_CastV n).Δ = lkB [] := rfl
theorem S6 (n : Nat) : (ctx_CastV n).wr = false := rfl
set_option maxRecDepth 100000 in
theorem step_CastV (n : Nat) (ih : Good Try.prog (35, con_CastV n)) : Good Try.prog (35, (con_CastV (n + 1))) := by
  refine ⟨U0 Try.func35 (by kernel_rfl) rfl, ?_⟩
  have K : CtxOk Try.prog (ctx_CastV n) := U4 Ki Ka (by
    intro p hp
    simp only [List.mem_cons, List.not_mem_nil, or_false] at hp
    rcases hp with rfl | rfl | rfl | rfl | rfl | rfl | rfl | rfl
    · exact Sc
    · exact O0
    · exact good_functionV
    · exact R4
    · exact Oy
    · exact Cb
    · exact Cc
    · exact ih) (by simp)
  obtain ⟨c, hc⟩ : ∃ c, Try.f35.body = some c := ⟨_, rfl⟩
  refine U5 K Try.func35 hc [.tmp 8, .tmp 9] rfl 115 rfl (fun cvs hpre => ?_)
  change (con_CastV (n + 1)).pre cvs at hpre
  unfold con_CastV at hpre
  obtain ⟨⟨v⟩, ⟨t⟩, ⟨u⟩, lab, rfl, hv, ⟨x, hx⟩, ⟨y, hy⟩, ⟨w, hw⟩, hn⟩ := Od hpre
  simp only at hv hx hy hw hn
  have hx1 := hx.tree
  have hy1 := hy.tree
  have hw1 := hw.tree
  have hxl := hx.at.lt
  have hyl := hy.at.lt
  have hwl := hw.at.lt
  have hya := hy.at
  have hwa := hw.at
  have htl : t.length ≤ 1000000 := by rw [hy.1]; exact hy.2.2
  have hul : u.length ≤ 1000000 := by rw [hw.1]; exact hw.2.2
  have htl2 : t.length ≤ 9223372036854775807 := by omega
  have hul2 : u.length ≤ 9223372036854775807 := by omega
  have hVI : VaIn v := ⟨List.ne_nil_of_length_pos hxl, by omega⟩
  have hTI : TyIn t := ⟨List.ne_nil_of_length_pos hyl, htl⟩
  have hUI : TyIn u := ⟨List.ne_nil_of_length_pos hwl, hul⟩
  have ev := U8 v0 hxl
  have eu := U8 n0 hwl
  have hro := hx.at.root v0
  rw [hro] at ev
  rw [hwa.root n0] at eu
  obtain ⟨R, hR⟩ : ∃ R, castR lab x y w = R := ⟨_, rfl⟩
  have hcl : ∀ z, R = some z → (nds z).length ≤ 2 * v.length := fun z hz => by rw [hx.1]; exact cast_len (hR.trans hz)
  have hR2 := hR
  rw [show x = mk x.root x.kids by cases x; rfl, castR] at hR2
  rw [show mk x.root x.kids = x by cases x; rfl] at hR2
  rw [← hy.1, ← hw.1] at hR2
  have hfl : funL v t u lab = optX (funR lab x y w) := by
    have := funL_eq (lab := lab) (x := x) (t := y) (u := w)
    rw [← hx.1, ← hy.1, ← hw.1] at this
    exact this
  have hxs : optX (some x) = (⟨v⟩, true) := by unfold optX; rw [hx.1]
  have hxn : optX none = (⟨[]⟩, false) := rfl
  have hsub := @oneV_sub x hx.2
  have hlen := @Ru x
  have hk1 := kid1 hx.2
  rw [← hx.1] at hlen
  have hkl := D4 x.kids
  have hvl : v.length = 1 + (ndss x.kids).length := by rw [hx.1, Gx, List.length_cons]; omega
  obtain ⟨ks, hks⟩ : ∃ ks, x.kids = ks := ⟨_, rfl⟩
  rw [hks] at hR2 hkl hvl
  simp only [hks] at hsub hlen hk1
  have hsl : (sls ks).length = ks.length := Mn
  obtain ⟨m, hm⟩ : ∃ m, x.root = m := ⟨_, rfl⟩
  rw [hm] at ev hR2 hk1 hro
  obtain ⟨p, hp⟩ : ∃ p, w.root = p := ⟨_, rfl⟩
  rw [hp] at eu hR2
  clear hpre
  simp only [Try.f35, Option.some.injEq] at hc
  subst hc
  refine Kl 7 (of_decide_eq_true (by kernel_rfl)) ?_
  cases hs : same3 t u with
  | true =>
    rw [hs, cond_true] at hR2
    subst hR2
    (sym =>
     simp [con4t.eq_def,hx1,hy1,hw1,hR,hs,hxs,Ut,Uw,Uv,Uu,szV,Ur,Up,Us,Uo,szN,Uq,Gj,Gl,Gk,Gm,con_CastV.eq_def,con_SameT.eq_def,con_functionV.eq_def,con_isBaseV.eq_def,con_isFunV.eq_def,con_joinedV.eq_def,con_kidsV.eq_def,con_partsV.eq_def,Zb,Zc,Ze,Zf,Zg,Zn,Zo,Z9,Qe,Qf,Qn,Qo,Qp,Qq,Qs,Q1,Q2,Q4,Q8,Jf,Jj,Jk,Jl,Jw,J2,J3,J4,J5,J7,J8,Xa,Xb,Xe,Xm,Xn,Xt,Xu,Xw,X2,X4,X5,X6,X9,Wa,Wd,Wf,Wg,Wh,Wr,Ws,Wt,Wu,Wv,Ww,Wx,Wy,W4,W5,W8,W9,Yv,Yw,Y5,Y6,Y9,Va,Vb,Vc,Vd,Ve,Vf,Vh,Vm,Vr,Vs,V5,V7,Uh,Uj,Uk,Ul,Kc,Kd]
     tactic =>
      try simp only [Uy] at *
      try simp only [nc2] at *
      try simp (maxSteps := 4000000) only [con4t.eq_def,hx1,hy1,hw1,hR,hs,hxs,Ut,Uw,Uv,Uu,szV,Ur,Up,Us,Uo,szN,Uq,U1]
      repeat' (first | with_reducible assumption | with_reducible refine And.intro ?_ ?_ | intro _ | omega | (rw [Ux]; omega)))
  | false =>
  rw [hs, cond_false] at hR2
  cases hf : isFunB m with
  | true =>
    rw [hf, cond_true] at hR2
    rw [hR2] at hfl
    (sym =>
     simp [con4t.eq_def,hx1,hy1,hw1,hR,hs,hro,hf,hfl,Ut,Uw,Uv,Uu,szV,Ur,Up,Us,Uo,szN,Uq,Gj,Gl,Gk,Gm,con_CastV.eq_def,con_SameT.eq_def,con_functionV.eq_def,con_isBaseV.eq_def,con_isFunV.eq_def,con_joinedV.eq_def,con_kidsV.eq_def,con_partsV.eq_def,Zb,Zc,Ze,Zf,Zg,Zn,Zo,Z8,Z9,Qe,Qf,Qg,Qn,Qo,Qp,Qq,Qs,Q1,Q2,Q4,Q8,Q9,Ja,Jf,Jj,Jk,Jl,Jw,J2,J3,J4,J5,J7,J8,Xa,Xb,Xe,Xm,Xn,Xt,Xu,Xw,X2,X4,X5,X6,X9,Wa,Wd,Wf,Wg,Wh,Wr,Ws,Wt,Wu,Wv,Ww,Wx,Wy,W4,W5,W8,W9,Yv,Yw,Y5,Y6,Y9,Va,Vb,Vc,Vd,Ve,Vf,Vh,Vk,Vm,Vr,Vs,V5,V7,Uh,Ui,Uj,Uk,Ul,Kc,Kd]
     tactic =>
      try simp only [Uy] at *
      try simp only [nc2] at *
      try simp (maxSteps := 4000000) only [con4t.eq_def,hx1,hy1,hw1,hR,hs,hro,hf,hfl,Ut,Uw,Uv,Uu,szV,Ur,Up,Us,Uo,szN,Uq,U1]
      repeat' (first | with_reducible assumption | with_reducible refine And.intro ?_ ?_ | intro _ | omega | (rw [Ux]; omega)))
  | false =>
  rw [hf, cond_false] at hR2
  cases k45 : (m.kind == 4 || m.kind == 5) with
  | false =>
    rw [k45, cond_false] at hR2
    rw [Bool.or_eq_false_iff] at k45
    obtain ⟨k4, k5⟩ := k45
    have n4 : (m.kind != 4) = true := by rw [bne, k4]; rfl
    have n5 : (m.kind != 5) = true := by rw [bne, k5]; rfl
    cases p0 : (p.kind == 0) with
    | true =>
      have p0n : (p.kind != 0) = false := by rw [bne, p0]; rfl
      rw [p0] at hR2
      simp only [Bool.not_true, Bool.false_and, cond_false] at hR2
      subst hR2
      (sym =>
       simp [con4t.eq_def,hx1,hy1,hw1,hR,hs,hro,hf,n4,n5,p0n,ev,eu,hxs,Ut,Uw,Uv,Uu,szV,Ur,Up,Us,Uo,szN,Uq,Gj,Gl,Gk,Gm,con_CastV.eq_def,con_SameT.eq_def,con_functionV.eq_def,con_isBaseV.eq_def,con_isFunV.eq_def,con_joinedV.eq_def,con_kidsV.eq_def,con_partsV.eq_def,Zb,Zc,Zd,Ze,Zf,Zg,Zn,Zo,Zp,Zq,Zs,Zt,Zv,Zx,Zy,Z9,Qb,Qd,Qe,Qf,Qn,Qo,Qp,Qq,Qs,Q1,Q2,Q4,Q8,Jf,Jj,Jk,Jl,Jw,J2,J3,J4,J5,J7,J8,Xa,Xb,Xe,Xm,Xn,Xt,Xu,Xw,X1,X2,X4,X5,X6,X9,Wa,Wd,Wf,Wg,Wh,Wr,Ws,Wt,Wu,Wv,Ww,Wx,Wy,W4,W5,W6,W7,W8,W9,Yc,Yg,Yk,Yr,Yu,Yv,Yw,Yy,Yz,Y5,Y6,Y9,Va,Vb,Vc,Vd,Ve,Vf,Vh,Vm,Vq,Vr,Vs,V4,V5,V7,Uh,Ui,Uj,Uk,Ul,Um,U2,U3,Kb,Kc,Kd]
       tactic =>
        try simp only [Uy] at *
        try simp only [nc2] at *
        try simp (maxSteps := 4000000) only [con4t.eq_def,hx1,hy1,hw1,hR,hs,hro,hf,n4,n5,p0n,ev,eu,hxs,Ut,Uw,Uv,Uu,szV,Ur,Up,Us,Uo,szN,Uq,U1]
        repeat' (first | with_reducible assumption | with_reducible refine And.intro ?_ ?_ | intro _ | omega | (rw [Ux]; omega)))
    | false =>
      have p0n : (p.kind != 0) = true := by rw [bne, p0]; rfl
      rw [p0] at hR2
      simp only [Bool.not_false, Bool.true_and] at hR2
      cases hb : isBaseB m p.kind with
      | true =>
        rw [hb] at hR2
        simp only [Bool.not_true, cond_false] at hR2
        subst hR2
        (sym =>
         simp [con4t.eq_def,hx1,hy1,hw1,hR,hs,hro,hf,n4,n5,p0n,hb,ev,eu,hxs,Ut,Uw,Uv,Uu,szV,Ur,Up,Us,Uo,szN,Uq,Gj,Gl,Gk,Gm,con_CastV.eq_def,con_SameT.eq_def,con_functionV.eq_def,con_isBaseV.eq_def,con_isFunV.eq_def,con_joinedV.eq_def,con_kidsV.eq_def,con_partsV.eq_def,Zb,Zc,Zd,Ze,Zf,Zg,Zn,Zo,Zp,Zq,Zs,Zt,Zv,Zx,Zy,Z9,Qb,Qc,Qd,Qe,Qf,Qn,Qo,Qp,Qq,Qs,Q1,Q2,Q4,Q8,Jf,Jj,Jk,Jl,Jw,J2,J3,J4,J5,J7,J8,Xa,Xb,Xe,Xm,Xn,Xt,Xu,Xw,X1,X2,X4,X5,X6,X9,Wa,Wd,Wf,Wg,Wh,Wr,Ws,Wt,Wu,Wv,Ww,Wx,Wy,W4,W5,W6,W7,W8,W9,Yc,Yd,Yg,Yh,Yk,Yr,Yu,Yv,Yw,Yy,Yz,Y5,Y6,Y9,Va,Vb,Vc,Vd,Ve,Vf,Vh,Vk,Vm,Vn,Vq,Vr,Vs,V4,V5,V7,Uh,Ui,Uj,Uk,Ul,Um,U2,Ku,U3,Kb,Kc,Kd]
         tactic =>
          try simp only [Uy] at *
          try simp only [nc2] at *
          try simp (maxSteps := 4000000) only [con4t.eq_def,hx1,hy1,hw1,hR,hs,hro,hf,n4,n5,p0n,hb,ev,eu,hxs,Ut,Uw,Uv,Uu,szV,Ur,Up,Us,Uo,szN,Uq,U1]
          repeat' (first | with_reducible assumption | with_reducible refine And.intro ?_ ?_ | intro _ | omega | (rw [Ux]; omega)))
      | false =>
        rw [hb] at hR2
        simp only [Bool.not_false, cond_true] at hR2
        subst hR2
        (sym =>
         simp [con4t.eq_def,hx1,hy1,hw1,hR,hs,hro,hf,n4,n5,p0n,hb,ev,eu,hxn,Ut,Uw,Uv,Uu,szV,Ur,Up,Us,Uo,szN,Uq,Gj,Gl,Gk,Gm,con_CastV.eq_def,con_SameT.eq_def,con_functionV.eq_def,con_isBaseV.eq_def,con_isFunV.eq_def,con_joinedV.eq_def,con_kidsV.eq_def,con_partsV.eq_def,Zb,Zc,Zd,Ze,Zf,Zg,Zn,Zo,Zp,Zq,Zs,Zt,Zv,Zx,Zy,Z9,Qb,Qc,Qd,Qe,Qf,Qn,Qo,Qp,Qq,Qs,Q1,Q2,Q4,Q8,Jf,Jj,Jk,Jl,Jw,J2,J3,J4,J5,J7,J8,Xa,Xb,Xe,Xf,Xm,Xn,Xt,Xu,Xw,X2,X4,X5,X6,X9,Wa,Wd,Wf,Wg,Wh,Wr,Ws,Wt,Wu,Wv,Ww,Wx,Wy,W4,W5,W6,W7,W8,W9,Yc,Yd,Yg,Yh,Yk,Yr,Yu,Yv,Yw,Yy,Yz,Y5,Y6,Y9,Va,Vb,Vc,Vd,Ve,Vf,Vh,Vk,Vm,Vo,Vq,Vr,Vs,V4,V5,V7,Uh,Ui,Uj,Uk,Ul,Um,U2,Ku,U3,Kb,Kc,Kd]
         tactic =>
          try simp only [Uy] at *
          try simp only [nc2] at *
          try simp (maxSteps := 4000000) only [con4t.eq_def,hx1,hy1,hw1,hR,hs,hro,hf,n4,n5,p0n,hb,ev,eu,hxn,Ut,Uw,Uv,Uu,szV,Ur,Up,Us,Uo,szN,Uq,U1]
          repeat' (first | with_reducible assumption | with_reducible refine And.intro ?_ ?_ | intro _ | omega | (rw [Ux]; omega)))
  | true =>
  rw [k45, cond_true] at hR2
  have h45 : m.kind = 4 ∨ m.kind = 5 := by simpa using k45
  have hex : ∃ x, OneV v x ∧ (x.root.kind = 4 ∨ x.root.kind = 5) := ⟨x, hx, by rw [hm]; exact h45⟩
  have hpx : ∀ z, partsX x z = match partsR m ks z with
      | some l => (⟨slsN l⟩, true)
      | none => (cond (z.root.kind == 7 && m.kind == 5) ⟨[⟨[]⟩]⟩ ⟨[]⟩, false) := fun z => by unfold partsX; (rw [hks, hm]) <;> rfl
  have hpy := hpx y
  have hpw := hpx w
  clear hpx
  obtain ⟨gy, hgy⟩ : ∃ gy : Sl (Sl Node), cond (y.root.kind == 7 && m.kind == 5) ⟨[⟨[]⟩]⟩ ⟨[]⟩ = gy := ⟨_, rfl⟩
  obtain ⟨gw, hgw⟩ : ∃ gw : Sl (Sl Node), cond (w.root.kind == 7 && m.kind == 5) ⟨[⟨[]⟩]⟩ ⟨[]⟩ = gw := ⟨_, rfl⟩
  rw [hgy] at hpy
  rw [hgw] at hpw
  rcases h45 with h | h
  · have n4 : (m.kind != 4) = false := by rw [h]; rfl
    cases hpa : partsR m ks y with
    | none =>
      rw [hpa] at hR2 hpy
      simp only at hR2 hpy
      obtain ⟨Bw, hBw⟩ : ∃ Bw, partsX x w = Bw := ⟨_, rfl⟩
      obtain ⟨b1, b2⟩ := Bw
      clear hpw
      subst hR2
      (sym =>
       simp [con4t.eq_def,hx1,hy1,hw1,hR,hs,hro,hf,n4,ev,hpy,hBw,hxn,Ut,Uw,Uv,Uu,szV,Ur,Up,Us,Uo,szN,Uq,Gj,Gl,Gk,Gm,con_CastV.eq_def,con_SameT.eq_def,con_functionV.eq_def,con_isBaseV.eq_def,con_isFunV.eq_def,con_joinedV.eq_def,con_kidsV.eq_def,con_partsV.eq_def,Zb,Zc,Zd,Ze,Zf,Zg,Zn,Zo,Zp,Zq,Zs,Zt,Zv,Zx,Zy,Z8,Z9,Qb,Qc,Qd,Qe,Qf,Qg,Qn,Qo,Qp,Qq,Qs,Q1,Q2,Q4,Q8,Q9,Ja,Jf,Jj,Jk,Jl,Jw,J2,J3,J4,J5,J7,J8,Xa,Xb,Xe,Xf,Xm,Xn,Xt,Xu,Xw,X1,X2,X4,X5,X6,X9,Wa,Wd,Wf,Wg,Wh,Wr,Ws,Wt,Wu,Wv,Ww,Wx,Wy,W4,W5,W6,W7,W8,W9,Yc,Yd,Yg,Yh,Yk,Yr,Yu,Yv,Yw,Yy,Yz,Y5,Y6,Y9,Va,Vb,Vc,Vd,Ve,Vf,Vh,Vm,Vo,Vq,Vr,Vs,V4,V5,V7,Uh,Ui,Uj,Uk,Ul,Um,U2,Ku,Kc,Kd]
       tactic =>
        try simp only [Uy] at *
        try simp only [nc2] at *
        try simp (maxSteps := 4000000) only [con4t.eq_def,hx1,hy1,hw1,hR,hs,hro,hf,n4,ev,hpy,hBw,hxn,Ut,Uw,Uv,Uu,szV,Ur,Up,Us,Uo,szN,Uq,U1]
        repeat' (first | with_reducible assumption | with_reducible refine And.intro ?_ ?_ | intro _ | omega | (rw [Ux]; omega))
        all_goals first
          | exact hex
          | exact ⟨y, hya⟩
          | exact ⟨w, hwa⟩
          | omega
          | skip)
    | some a =>
      rw [hpa] at hR2 hpy
      simp only at hR2 hpy
      cases hpb : partsR m ks w with
      | none =>
        rw [hpb] at hR2 hpw
        simp only at hR2 hpw
        subst hR2
        (sym =>
         simp [con4t.eq_def,hx1,hy1,hw1,hR,hs,hro,hf,n4,ev,hpy,hpw,hxn,Ut,Uw,Uv,Uu,szV,Ur,Up,Us,Uo,szN,Uq,Gj,Gl,Gk,Gm,con_CastV.eq_def,con_SameT.eq_def,con_functionV.eq_def,con_isBaseV.eq_def,con_isFunV.eq_def,con_joinedV.eq_def,con_kidsV.eq_def,con_partsV.eq_def,Zb,Zc,Zd,Ze,Zf,Zg,Zn,Zo,Zp,Zq,Zs,Zt,Zv,Zx,Zy,Z8,Z9,Qb,Qc,Qd,Qe,Qf,Qg,Qn,Qo,Qp,Qq,Qs,Q1,Q2,Q4,Q8,Q9,Ja,Jf,Jj,Jk,Jl,Jw,J2,J3,J4,J5,J7,J8,Xa,Xb,Xe,Xf,Xm,Xn,Xt,Xu,Xw,X1,X2,X4,X5,X6,X9,Wa,Wd,Wf,Wg,Wh,Wr,Ws,Wt,Wu,Wv,Ww,Wx,Wy,W4,W5,W6,W7,W8,W9,Yc,Yd,Yg,Yh,Yk,Yr,Yu,Yv,Yw,Yy,Yz,Y5,Y6,Y9,Va,Vb,Vc,Vd,Ve,Vf,Vh,Vm,Vn,Vo,Vq,Vr,Vs,V4,V5,V7,Uh,Ui,Uj,Uk,Ul,Um,U2,Ku,Kc,Kd]
         tactic =>
          try simp only [Uy] at *
          try simp only [nc2] at *
          try simp (maxSteps := 4000000) only [con4t.eq_def,hx1,hy1,hw1,hR,hs,hro,hf,n4,ev,hpy,hpw,hxn,Ut,Uw,Uv,Uu,szV,Ur,Up,Us,Uo,szN,Uq,U1]
          repeat' (first | with_reducible assumption | with_reducible refine And.intro ?_ ?_ | intro _ | omega | (rw [Ux]; omega))
          all_goals first
            | exact hex
            | exact ⟨y, hya⟩
            | exact ⟨w, hwa⟩
            | omega
            | skip)
      | some b =>
        rw [hpb] at hR2 hpw
        simp only at hR2 hpw
        rw [F4] at hR2
        have hal : a.length = ks.length := Pd hpa hk1
        have hbl : b.length = ks.length := Pd hpb hk1
        have hay := P8 hy.2 hpa
        have hby := P8 hw.2 hpb
        have hsa : (slsN a).length = ks.length := by rw [Pu, hal]
        have hsb : (slsN b).length = ks.length := by rw [Pu, hbl]
        obtain ⟨c, hc⟩ : ∃ c : Nat → Option (Rose VNode), c = fun j => castR lab (ks.getD j dv) (a.getD j dynT) (b.getD j dynT) := ⟨_, rfl⟩
        rw [← hc] at hR2
        (sym =>
         simp [con1w.eq_def,con4t.eq_def,hx1,hy1,hw1,hs,hro,hf,n4,ev,hpy,hpw,hks,hsl,Ut,Uw,Uv,Uu,szV,Ur,Up,Us,Uo,szN,Uq,Gj,Gl,Gk,Gm,con_CastV.eq_def,con_SameT.eq_def,con_functionV.eq_def,con_isBaseV.eq_def,con_isFunV.eq_def,con_joinedV.eq_def,con_kidsV.eq_def,con_partsV.eq_def,Zb,Zc,Zd,Ze,Zf,Zg,Zn,Zo,Zp,Zq,Zs,Zt,Zv,Zx,Zy,Z6,Z8,Z9,Qb,Qc,Qd,Qe,Qf,Qg,Qq,Qs,Q1,Q2,Q4,Q8,Q9,Ja,Jf,Jh,Ji,Jj,Jl,Jw,J2,J3,J4,J5,J7,J8,Xa,Xb,Xe,Xm,Xn,Xt,Xu,Xw,X1,X2,X4,X5,X6,X7,Wa,Wd,Wf,Wg,Wh,Wr,Ws,Wt,Wu,Wv,Ww,Wx,Wy,W4,W5,W6,W7,W8,W9,Yc,Yd,Yg,Yh,Yk,Yr,Yu,Yv,Yw,Yy,Yz,Y4,Y5,Y6,Y9,Va,Vb,Vc,Vd,Ve,Vf,Vh,Vm,Vn,Vq,Vr,Vs,V4,V5,V7,Ui,Uj,Uk,Ul,Um,U2,Ku,Kc,Kd,He]
         tactic =>
          try simp only [Uy] at *
          try simp only [nc2] at *
          try simp (maxSteps := 4000000) only [con1w.eq_def,con4t.eq_def,hx1,hy1,hw1,hs,hro,hf,n4,ev,hpy,hpw,hks,hsl,Ut,Uw,Uv,Uu,szV,Ur,Up,Us,Uo,szN,Uq,U1]
          repeat' (first | with_reducible assumption | with_reducible refine And.intro ?_ ?_ | intro _ | omega | (rw [Ux]; omega))
          · exact ⟨y, hya⟩
          · exact ⟨w, hwa⟩
          · exact ⟨x, hx⟩
          refine Ke [8, 9, 15, 16, 17, 18, 85, 86, 87, 88, 89, 90, 91, 92, 93, 94, 95, 96, 97, 98, 99, 100, 101, 102, 103, 104, 105, 106, 107, 108, 109] (fun q : Nat × List (Rose VNode) => [(14, .sl 81 ((sls (q.2 ++ ks.drop q.1)).map (enc : Sl VNode → D)).length), (82, .sl 81 ((sls (q.2 ++ ks.drop q.1)).map (enc : Sl VNode → D)).length), (84, .d (.int .i64 q.1))]) (fun q : Nat × List (Rose VNode) => [(81, .row 1 ((sls (q.2 ++ ks.drop q.1)).map enc) 0)]) (fun q : Nat × List (Rose VNode) => q.1 ≤ ks.length ∧ seqO c q.1 = some q.2) (fun q : Nat × List (Rose VNode) => ks.length - q.1) (0, []) ?_ ?_ ?_
          · exact ⟨Nat.zero_le _, rfl⟩
          · ((try simp only [Uz, killAll, setSlots, updAll, upd, U9, setCs, putC, Nat.reduceDiv, Nat.reduceMod, Nat.reduceMul, Nat.reduceAdd, Nat.reduceEqDiff, List.set_cons_zero, List.set_cons_succ, if_true, if_false, reduceIte]); (first | refine Wk.of_fl ?_ | skip); simp only [Wk, wkK, wkCs, wkT, wk1, AV.kept, keptAll, wkO, lk, wkObj, and_true, true_and, and_self, Nat.reduceEqDiff, Nat.reduceLeDiff, if_true, if_false, reduceIte, reduceCtorEq, Option.isSome, false_implies]; try simp [Wk, wkK, wkT, wk1, AV.kept, keptAll, wkO, lk, wkObj, hsl])
          rintro ⟨k, ys⟩ ⟨hk, hq⟩
          simp only at hk hq
          have hyl2 := L1 hq
          have hml : (sls (ys ++ ks.drop k)).length = ks.length := by rw [Mn, T6 hk hyl2]
          rcases Kf k ks.length with ⟨hlt, hlb⟩ | ⟨hlt, hlb⟩
          · have q1 := U8 (⟨[]⟩ : Sl VNode) (show k < (sls (ys ++ ks.drop k)).length by omega)
            rw [Ij (by rw [T6 hk hyl2]; exact hlt), mix_at hlt hyl2] at q1
            have q2 := U8 (⟨[]⟩ : Sl Node) (show k < (slsN a).length by omega)
            rw [Dx (show k < a.length by omega)] at q2
            have q3 := U8 (⟨[]⟩ : Sl Node) (show k < (slsN b).length by omega)
            rw [Dx (show k < b.length by omega)] at q3
            have hck : c k = castR lab ks[k] (a[k]'(by omega)) (b[k]'(by omega)) := by rw [hc]; simp [hlt, show k < a.length by omega, show k < b.length by omega]
            have g1 := hsub hlt
            have g2 := hlen hlt
            have g4 := Tf (hay _ (List.getElem_mem (show k < a.length by omega)))
            have g5 := Tf (hby _ (List.getElem_mem (show k < b.length by omega)))
            obtain ⟨z, hz⟩ : ∃ z, ks[k] = z := ⟨_, rfl⟩
            obtain ⟨za, hza⟩ : ∃ za, a[k]'(by omega) = za := ⟨_, rfl⟩
            obtain ⟨zb, hzb⟩ : ∃ zb, b[k]'(by omega) = zb := ⟨_, rfl⟩
            rw [hz] at q1 g1 g2 hck
            rw [hza] at q2 g4 hck
            rw [hzb] at q3 g5 hck
            have tz := g1.tree
            have ta := g4.tree
            have tb := g5.tree
            cases hcc : castR lab z za zb with
            | none =>
              rw [hcc] at hck
              rw [Ik hck hlt] at hR2
              simp only [Option.map_none] at hR2
              subst hR2
              (sym =>
               simp [con1w.eq_def,con4t.eq_def,hlb,hml,q1,q2,q3,hsa,hsb,tz,ta,tb,hcc,hxn,hx1,hy1,hw1,hR,Ut,Uw,Uv,Uu,szV,Ur,Up,Us,Uo,szN,Uq,Gj,Gl,Gk,Gm,S6,con_CastV.eq_def,con_SameT.eq_def,con_functionV.eq_def,con_isBaseV.eq_def,con_isFunV.eq_def,con_joinedV.eq_def,con_kidsV.eq_def,con_partsV.eq_def,Zb,Zc,Ze,Zf,Zg,Zh,Zi,Zj,Zk,Zl,Zm,Zn,Zo,Zp,Zq,Zv,Zy,Z8,Z9,Qb,Qc,Qd,Qe,Qf,Qg,Qn,Qo,Qp,Qq,Qr,Qs,Q1,Q2,Q4,Q5,Q6,Q8,Q9,Ja,Jf,Jh,Ji,Jj,Jk,Jl,Jx,Jy,Jz,J4,J5,J7,J8,Xa,Xb,Xe,Xf,Xt,Xu,Xw,X1,X2,X3,X4,X5,X6,X9,Wa,Wb,Wc,Wd,We,Wf,Wg,Wh,Wn,Wo,Wp,Wq,Wr,Ws,Wt,Wu,Wv,Wx,Wy,W0,W3,W4,W5,W8,W9,Yb,Yc,Yd,Yg,Yh,Yk,Yw,Yy,Yz,Y1,Y4,Y5,Y6,Va,Vf,Vh,Vk,Vm,Vo,Vp,Vr,Vs,V5,V7,Uh,Ui,Uj,Uk,Ul,Um,Un,U2,Ku,U3,Kc,Kd,K7,He]
               tactic =>
                try simp only [Uy] at *
                try simp only [nc2] at *
                try simp (maxSteps := 4000000) only [con1w.eq_def,con4t.eq_def,hlb,hml,q1,q2,q3,hsa,hsb,tz,ta,tb,hcc,hxn,hx1,hy1,hw1,hR,Ut,Uw,Uv,Uu,szV,Ur,Up,Us,Uo,szN,Uq,U1]
                repeat' (first | with_reducible assumption | with_reducible refine And.intro ?_ ?_ | intro _ | omega | (rw [Ux]; omega))
                all_goals first
                  | (with_reducible refine Kh ?_; kernel_rfl)
                  | omega
                  | exact ⟨_, g1⟩
                  | exact ⟨_, g4⟩
                  | exact ⟨_, g5⟩
                  | skip)
            | some yk =>
              rw [hcc] at hck
              have hsn : seqO c (k + 1) = some (ys ++ [yk]) := by rw [seqO, hq, hck]
              have hos : optX (some yk) = (⟨nds yk⟩, true) := rfl
              have hset := sls_set (ks := ys ++ ks.drop k) (k := k) (y := yk)
              rw [mix_set hlt hyl2] at hset
              have hml2 : (sls (ys ++ [yk] ++ ks.drop (k + 1))).length = ks.length := by rw [Mn, T6 (by omega) (L1 hsn)]
              have hml3 : (sls (ys ++ yk :: ks.drop (k + 1))).length = ks.length := by rw [← hml2, List.append_assoc]; rfl
              (sym =>
               simp [con1w.eq_def,con4t.eq_def,hlb,hml,q1,q2,q3,hsa,hsb,tz,ta,tb,hcc,hos,hset,Ut,Uw,Uv,Uu,szV,Ur,Up,Us,Uo,szN,Uq,Gj,Gl,Gk,Gm,S6,con_CastV.eq_def,con_SameT.eq_def,con_functionV.eq_def,con_isBaseV.eq_def,con_isFunV.eq_def,con_joinedV.eq_def,con_kidsV.eq_def,con_partsV.eq_def,Zb,Zc,Ze,Zf,Zg,Zh,Zi,Zj,Zk,Zl,Zm,Zo,Zp,Zq,Zv,Zw,Zy,Z8,Z9,Qb,Qc,Qd,Qe,Qf,Qg,Qq,Qr,Qs,Q1,Q2,Q4,Q5,Q6,Q8,Q9,Ja,Jf,Jh,Ji,Jj,Jl,Jx,Jy,Jz,J4,J5,J7,J8,Xa,Xb,Xe,Xt,Xu,Xw,X1,X2,X3,X4,X5,X6,Wa,Wb,Wc,Wd,We,Wf,Wg,Wh,Wn,Wo,Wp,Wq,Wr,Ws,Wt,Wu,Wv,Wx,Wy,W0,W3,W4,W5,W8,W9,Yb,Yc,Yd,Yg,Yh,Yk,Yw,Yy,Yz,Y0,Y1,Y4,Y5,Y6,Va,Vf,Vh,Vk,Vm,Vn,Vp,Vr,Vs,V0,V4,Uh,Ui,Uj,Uk,Ul,Um,Un,U2,Ku,U3,Kc,K7,He]
               tactic =>
                try simp only [Uy] at *
                try simp only [nc2] at *
                try simp (maxSteps := 4000000) only [con1w.eq_def,con4t.eq_def,hlb,hml,q1,q2,q3,hsa,hsb,tz,ta,tb,hcc,hos,hset,Ut,Uw,Uv,Uu,szV,Ur,Up,Us,Uo,szN,Uq,U1]
                repeat' (first | with_reducible assumption | with_reducible refine And.intro ?_ ?_ | intro _ | omega | (rw [Ux]; omega))
                all_goals first
                  | (with_reducible refine Kh ?_; kernel_rfl)
                  | omega
                  | exact ⟨_, g1⟩
                  | exact ⟨_, g4⟩
                  | exact ⟨_, g5⟩
                  | exact ⟨(k + 1, ys ++ [yk]), by ((try simp only [Uz, killAll, setSlots, updAll, upd, U9, setCs, putC, Nat.reduceDiv, Nat.reduceMod, Nat.reduceMul, Nat.reduceAdd, Nat.reduceEqDiff, List.set_cons_zero, List.set_cons_succ, if_true, if_false, reduceIte]); (first | refine Wk.of_fl ?_ | skip); simp only [Wk, wkK, wkCs, wkT, wk1, AV.kept, keptAll, wkO, lk, wkObj, and_true, true_and, and_self, Nat.reduceEqDiff, Nat.reduceLeDiff, if_true, if_false, reduceIte, reduceCtorEq, Option.isSome, false_implies]; try simp [Wk, wkK, wkT, wk1, AV.kept, keptAll, wkO, lk, wkObj, hml, hml2, hml3]), by simp only; omega, hsn, by simp only; omega⟩
                  | skip)
          · have hkl2 : k = ks.length := by omega
            rw [hkl2] at hq
            rw [hq] at hR2
            simp only [Option.map_some] at hR2
            have hcl2 := hcl _ hR2.symm
            rw [K6, List.length_cons] at hcl2
            have hfl2 := Ad ys
            have hos : optX R = (⟨m :: ndss ys⟩, true) := by rw [← hR2]; simp only [optX, K6]
            have hdr : ys ++ ks.drop k = ys := by rw [hkl2, List.drop_length, List.append_nil]
            rw [hdr] at hml ⊢
            have hsy : (sls ys).length ≤ 1000000 := by rw [hml]; omega
            (sym =>
             simp [con1w.eq_def,con4t.eq_def,hlb,hml,ev,hfl2,hx1,hy1,hw1,hR,hos,Ut,Uw,Uv,Uu,szV,Ur,Up,Us,Uo,szN,Uq,Gj,Gl,Gk,Gm,con_CastV.eq_def,con_SameT.eq_def,con_functionV.eq_def,con_isBaseV.eq_def,con_isFunV.eq_def,con_joinedV.eq_def,con_kidsV.eq_def,con_partsV.eq_def,Zb,Zc,Ze,Zf,Zg,Zo,Zp,Zq,Zv,Zy,Z9,Qb,Qd,Qe,Qf,Qn,Qo,Qp,Qq,Qs,Q1,Q2,Q4,Q8,Jf,Jh,Ji,Jj,Jk,Jl,Jx,Jy,Jz,J4,J5,J6,J7,J8,J9,Xa,Xb,Xe,Xg,Xo,Xt,Xu,Xw,X2,X4,X5,X8,X9,Wa,Wd,Wf,Wg,Wh,Wr,Ws,Wt,Wu,Wv,Wx,Wy,W8,W9,Yb,Yc,Yg,Yk,Yy,Yz,Y5,Y6,Y7,Y8,Vi,Vj,Vq,Vr,Vs,V4,V5,Ui,Uj,Uk,Ul,Um,U2,Kc,Kd]
             tactic =>
              try simp only [Uy] at *
              try simp only [nc2] at *
              try simp (maxSteps := 4000000) only [con1w.eq_def,con4t.eq_def,hlb,hml,ev,hfl2,hx1,hy1,hw1,hR,hos,Ut,Uw,Uv,Uu,szV,Ur,Up,Us,Uo,szN,Uq,U1]
              repeat' (first | with_reducible assumption | with_reducible refine And.intro ?_ ?_ | intro _ | omega | (rw [Ux]; omega))
              all_goals first
                | (with_reducible refine Kh ?_; kernel_rfl)
                | omega
                | skip))
  · have n4 : (m.kind != 4) = true := by rw [h]; rfl
    have n5 : (m.kind != 5) = false := by rw [h]; rfl
    cases hpa : partsR m ks y with
    | none =>
      rw [hpa] at hR2 hpy
      simp only at hR2 hpy
      obtain ⟨Bw, hBw⟩ : ∃ Bw, partsX x w = Bw := ⟨_, rfl⟩
      obtain ⟨b1, b2⟩ := Bw
      clear hpw
      subst hR2
      (sym =>
       simp [con4t.eq_def,hx1,hy1,hw1,hR,hs,hro,hf,n4,n5,ev,hpy,hBw,hxn,Ut,Uw,Uv,Uu,szV,Ur,Up,Us,Uo,szN,Uq,Gj,Gl,Gk,Gm,con_CastV.eq_def,con_SameT.eq_def,con_functionV.eq_def,con_isBaseV.eq_def,con_isFunV.eq_def,con_joinedV.eq_def,con_kidsV.eq_def,con_partsV.eq_def,Zb,Zc,Zd,Ze,Zf,Zg,Zn,Zo,Zp,Zq,Zs,Zt,Zv,Zx,Zy,Z8,Z9,Qb,Qc,Qd,Qe,Qf,Qg,Qn,Qo,Qp,Qq,Qs,Q1,Q2,Q4,Q8,Q9,Ja,Jf,Jj,Jk,Jl,Jw,J2,J3,J4,J5,J7,J8,Xa,Xb,Xe,Xf,Xm,Xn,Xt,Xu,Xw,X1,X2,X4,X5,X6,X9,Wa,Wd,Wf,Wg,Wh,Wr,Ws,Wt,Wu,Wv,Ww,Wx,Wy,W4,W5,W6,W7,W8,W9,Yc,Yd,Yg,Yh,Yk,Yr,Yu,Yv,Yw,Yy,Yz,Y5,Y6,Y9,Va,Vb,Vc,Vd,Ve,Vf,Vh,Vm,Vo,Vq,Vr,Vs,V4,V5,V7,Uh,Ui,Uj,Uk,Ul,Um,U2,Ku,Kc,Kd]
       tactic =>
        try simp only [Uy] at *
        try simp only [nc2] at *
        try simp (maxSteps := 4000000) only [con4t.eq_def,hx1,hy1,hw1,hR,hs,hro,hf,n4,n5,ev,hpy,hBw,hxn,Ut,Uw,Uv,Uu,szV,Ur,Up,Us,Uo,szN,Uq,U1]
        repeat' (first | with_reducible assumption | with_reducible refine And.intro ?_ ?_ | intro _ | omega | (rw [Ux]; omega))
        all_goals first
          | exact hex
          | exact ⟨y, hya⟩
          | exact ⟨w, hwa⟩
          | omega
          | skip)
    | some a =>
      rw [hpa] at hR2 hpy
      simp only at hR2 hpy
      cases hpb : partsR m ks w with
      | none =>
        rw [hpb] at hR2 hpw
        simp only at hR2 hpw
        subst hR2
        (sym =>
         simp [con4t.eq_def,hx1,hy1,hw1,hR,hs,hro,hf,n4,n5,ev,hpy,hpw,hxn,Ut,Uw,Uv,Uu,szV,Ur,Up,Us,Uo,szN,Uq,Gj,Gl,Gk,Gm,con_CastV.eq_def,con_SameT.eq_def,con_functionV.eq_def,con_isBaseV.eq_def,con_isFunV.eq_def,con_joinedV.eq_def,con_kidsV.eq_def,con_partsV.eq_def,Zb,Zc,Zd,Ze,Zf,Zg,Zn,Zo,Zp,Zq,Zs,Zt,Zv,Zx,Zy,Z8,Z9,Qb,Qc,Qd,Qe,Qf,Qg,Qn,Qo,Qp,Qq,Qs,Q1,Q2,Q4,Q8,Q9,Ja,Jf,Jj,Jk,Jl,Jw,J2,J3,J4,J5,J7,J8,Xa,Xb,Xe,Xf,Xm,Xn,Xt,Xu,Xw,X1,X2,X4,X5,X6,X9,Wa,Wd,Wf,Wg,Wh,Wr,Ws,Wt,Wu,Wv,Ww,Wx,Wy,W4,W5,W6,W7,W8,W9,Yc,Yd,Yg,Yh,Yk,Yr,Yu,Yv,Yw,Yy,Yz,Y5,Y6,Y9,Va,Vb,Vc,Vd,Ve,Vf,Vh,Vm,Vn,Vo,Vq,Vr,Vs,V4,V5,V7,Uh,Ui,Uj,Uk,Ul,Um,U2,Ku,Kc,Kd]
         tactic =>
          try simp only [Uy] at *
          try simp only [nc2] at *
          try simp (maxSteps := 4000000) only [con4t.eq_def,hx1,hy1,hw1,hR,hs,hro,hf,n4,n5,ev,hpy,hpw,hxn,Ut,Uw,Uv,Uu,szV,Ur,Up,Us,Uo,szN,Uq,U1]
          repeat' (first | with_reducible assumption | with_reducible refine And.intro ?_ ?_ | intro _ | omega | (rw [Ux]; omega))
          all_goals first
            | exact hex
            | exact ⟨y, hya⟩
            | exact ⟨w, hwa⟩
            | omega
            | skip)
      | some b =>
        rw [hpb] at hR2 hpw
        simp only at hR2 hpw
        rw [F4] at hR2
        have hal : a.length = ks.length := Pd hpa hk1
        have hbl : b.length = ks.length := Pd hpb hk1
        have hay := P8 hy.2 hpa
        have hby := P8 hw.2 hpb
        have hsa : (slsN a).length = ks.length := by rw [Pu, hal]
        have hsb : (slsN b).length = ks.length := by rw [Pu, hbl]
        obtain ⟨c, hc⟩ : ∃ c : Nat → Option (Rose VNode), c = fun j => castR lab (ks.getD j dv) (a.getD j dynT) (b.getD j dynT) := ⟨_, rfl⟩
        rw [← hc] at hR2
        (sym =>
         simp [con1w.eq_def,con4t.eq_def,hx1,hy1,hw1,hs,hro,hf,n4,n5,ev,hpy,hpw,hks,hsl,Ut,Uw,Uv,Uu,szV,Ur,Up,Us,Uo,szN,Uq,Gj,Gl,Gk,Gm,con_CastV.eq_def,con_SameT.eq_def,con_functionV.eq_def,con_isBaseV.eq_def,con_isFunV.eq_def,con_joinedV.eq_def,con_kidsV.eq_def,con_partsV.eq_def,Zb,Zc,Zd,Ze,Zf,Zg,Zn,Zo,Zp,Zq,Zs,Zt,Zv,Zx,Zy,Z6,Z8,Z9,Qb,Qc,Qd,Qe,Qf,Qg,Qq,Qs,Q1,Q2,Q4,Q8,Q9,Ja,Jf,Jh,Ji,Jj,Jl,Jw,J2,J3,J4,J5,J7,J8,Xa,Xb,Xe,Xm,Xn,Xt,Xu,Xw,X1,X2,X4,X5,X6,X7,Wa,Wd,Wf,Wg,Wh,Wr,Ws,Wt,Wu,Wv,Ww,Wx,Wy,W4,W5,W6,W7,W8,W9,Yc,Yd,Yg,Yh,Yk,Yr,Yu,Yv,Yw,Yy,Yz,Y4,Y5,Y6,Y9,Va,Vb,Vc,Vd,Ve,Vf,Vh,Vm,Vn,Vq,Vr,Vs,V4,V5,V7,Uh,Ui,Uj,Uk,Ul,Um,U2,Ku,Kc,Kd,He]
         tactic =>
          try simp only [Uy] at *
          try simp only [nc2] at *
          try simp (maxSteps := 4000000) only [con1w.eq_def,con4t.eq_def,hx1,hy1,hw1,hs,hro,hf,n4,n5,ev,hpy,hpw,hks,hsl,Ut,Uw,Uv,Uu,szV,Ur,Up,Us,Uo,szN,Uq,U1]
          repeat' (first | with_reducible assumption | with_reducible refine And.intro ?_ ?_ | intro _ | omega | (rw [Ux]; omega))
          · exact ⟨y, hya⟩
          · exact ⟨w, hwa⟩
          · exact ⟨x, hx⟩
          refine Ke [8, 9, 15, 16, 17, 18, 85, 86, 87, 88, 89, 90, 91, 92, 93, 94, 95, 96, 97, 98, 99, 100, 101, 102, 103, 104, 105, 106, 107, 108, 109] (fun q : Nat × List (Rose VNode) => [(14, .sl 81 ((sls (q.2 ++ ks.drop q.1)).map (enc : Sl VNode → D)).length), (82, .sl 81 ((sls (q.2 ++ ks.drop q.1)).map (enc : Sl VNode → D)).length), (84, .d (.int .i64 q.1))]) (fun q : Nat × List (Rose VNode) => [(81, .row 1 ((sls (q.2 ++ ks.drop q.1)).map enc) 0)]) (fun q : Nat × List (Rose VNode) => q.1 ≤ ks.length ∧ seqO c q.1 = some q.2) (fun q : Nat × List (Rose VNode) => ks.length - q.1) (0, []) ?_ ?_ ?_
          · exact ⟨Nat.zero_le _, rfl⟩
          · ((try simp only [Uz, killAll, setSlots, updAll, upd, U9, setCs, putC, Nat.reduceDiv, Nat.reduceMod, Nat.reduceMul, Nat.reduceAdd, Nat.reduceEqDiff, List.set_cons_zero, List.set_cons_succ, if_true, if_false, reduceIte]); (first | refine Wk.of_fl ?_ | skip); simp only [Wk, wkK, wkCs, wkT, wk1, AV.kept, keptAll, wkO, lk, wkObj, and_true, true_and, and_self, Nat.reduceEqDiff, Nat.reduceLeDiff, if_true, if_false, reduceIte, reduceCtorEq, Option.isSome, false_implies]; try simp [Wk, wkK, wkT, wk1, AV.kept, keptAll, wkO, lk, wkObj, hsl])
          rintro ⟨k, ys⟩ ⟨hk, hq⟩
          simp only at hk hq
          have hyl2 := L1 hq
          have hml : (sls (ys ++ ks.drop k)).length = ks.length := by rw [Mn, T6 hk hyl2]
          rcases Kf k ks.length with ⟨hlt, hlb⟩ | ⟨hlt, hlb⟩
          · have q1 := U8 (⟨[]⟩ : Sl VNode) (show k < (sls (ys ++ ks.drop k)).length by omega)
            rw [Ij (by rw [T6 hk hyl2]; exact hlt), mix_at hlt hyl2] at q1
            have q2 := U8 (⟨[]⟩ : Sl Node) (show k < (slsN a).length by omega)
            rw [Dx (show k < a.length by omega)] at q2
            have q3 := U8 (⟨[]⟩ : Sl Node) (show k < (slsN b).length by omega)
            rw [Dx (show k < b.length by omega)] at q3
            have hck : c k = castR lab ks[k] (a[k]'(by omega)) (b[k]'(by omega)) := by rw [hc]; simp [hlt, show k < a.length by omega, show k < b.length by omega]
            have g1 := hsub hlt
            have g2 := hlen hlt
            have g4 := Tf (hay _ (List.getElem_mem (show k < a.length by omega)))
            have g5 := Tf (hby _ (List.getElem_mem (show k < b.length by omega)))
            obtain ⟨z, hz⟩ : ∃ z, ks[k] = z := ⟨_, rfl⟩
            obtain ⟨za, hza⟩ : ∃ za, a[k]'(by omega) = za := ⟨_, rfl⟩
            obtain ⟨zb, hzb⟩ : ∃ zb, b[k]'(by omega) = zb := ⟨_, rfl⟩
            rw [hz] at q1 g1 g2 hck
            rw [hza] at q2 g4 hck
            rw [hzb] at q3 g5 hck
            have tz := g1.tree
            have ta := g4.tree
            have tb := g5.tree
            cases hcc : castR lab z za zb with
            | none =>
              rw [hcc] at hck
              rw [Ik hck hlt] at hR2
              simp only [Option.map_none] at hR2
              subst hR2
              (sym =>
               simp [con1w.eq_def,con4t.eq_def,hlb,hml,q1,q2,q3,hsa,hsb,tz,ta,tb,hcc,hxn,hx1,hy1,hw1,hR,Ut,Uw,Uv,Uu,szV,Ur,Up,Us,Uo,szN,Uq,Gj,Gl,Gk,Gm,S6,con_CastV.eq_def,con_SameT.eq_def,con_functionV.eq_def,con_isBaseV.eq_def,con_isFunV.eq_def,con_joinedV.eq_def,con_kidsV.eq_def,con_partsV.eq_def,Zb,Zc,Ze,Zf,Zg,Zh,Zi,Zj,Zk,Zl,Zm,Zn,Zo,Zp,Zq,Zv,Zy,Z8,Z9,Qb,Qc,Qd,Qe,Qf,Qg,Qn,Qo,Qp,Qq,Qr,Qs,Q1,Q2,Q4,Q5,Q6,Q8,Q9,Ja,Jf,Jh,Ji,Jj,Jk,Jl,Jx,Jy,Jz,J4,J5,J7,J8,Xa,Xb,Xe,Xf,Xt,Xu,Xw,X1,X2,X3,X4,X5,X6,X9,Wa,Wb,Wc,Wd,We,Wf,Wg,Wh,Wn,Wo,Wp,Wq,Wr,Ws,Wt,Wu,Wv,Wx,Wy,W0,W3,W4,W5,W8,W9,Yb,Yc,Yd,Yg,Yh,Yk,Yw,Yy,Yz,Y1,Y4,Y5,Y6,Va,Vf,Vh,Vk,Vm,Vo,Vp,Vr,Vs,V5,V7,Uh,Ui,Uj,Uk,Ul,Um,Un,U2,Ku,U3,Kc,Kd,K7,He]
               tactic =>
                try simp only [Uy] at *
                try simp only [nc2] at *
                try simp (maxSteps := 4000000) only [con1w.eq_def,con4t.eq_def,hlb,hml,q1,q2,q3,hsa,hsb,tz,ta,tb,hcc,hxn,hx1,hy1,hw1,hR,Ut,Uw,Uv,Uu,szV,Ur,Up,Us,Uo,szN,Uq,U1]
                repeat' (first | with_reducible assumption | with_reducible refine And.intro ?_ ?_ | intro _ | omega | (rw [Ux]; omega))
                all_goals first
                  | (with_reducible refine Kh ?_; kernel_rfl)
                  | omega
                  | exact ⟨_, g1⟩
                  | exact ⟨_, g4⟩
                  | exact ⟨_, g5⟩
                  | skip)
            | some yk =>
              rw [hcc] at hck
              have hsn : seqO c (k + 1) = some (ys ++ [yk]) := by rw [seqO, hq, hck]
              have hos : optX (some yk) = (⟨nds yk⟩, true) := rfl
              have hset := sls_set (ks := ys ++ ks.drop k) (k := k) (y := yk)
              rw [mix_set hlt hyl2] at hset
              have hml2 : (sls (ys ++ [yk] ++ ks.drop (k + 1))).length = ks.length := by rw [Mn, T6 (by omega) (L1 hsn)]
              have hml3 : (sls (ys ++ yk :: ks.drop (k + 1))).length = ks.length := by rw [← hml2, List.append_assoc]; rfl
              (sym =>
               simp [con1w.eq_def,con4t.eq_def,hlb,hml,q1,q2,q3,hsa,hsb,tz,ta,tb,hcc,hos,hset,Ut,Uw,Uv,Uu,szV,Ur,Up,Us,Uo,szN,Uq,Gj,Gl,Gk,Gm,S6,con_CastV.eq_def,con_SameT.eq_def,con_functionV.eq_def,con_isBaseV.eq_def,con_isFunV.eq_def,con_joinedV.eq_def,con_kidsV.eq_def,con_partsV.eq_def,Zb,Zc,Ze,Zf,Zg,Zh,Zi,Zj,Zk,Zl,Zm,Zo,Zp,Zq,Zv,Zw,Zy,Z8,Z9,Qb,Qc,Qd,Qe,Qf,Qg,Qq,Qr,Qs,Q1,Q2,Q4,Q5,Q6,Q8,Q9,Ja,Jf,Jh,Ji,Jj,Jl,Jx,Jy,Jz,J4,J5,J7,J8,Xa,Xb,Xe,Xt,Xu,Xw,X1,X2,X3,X4,X5,X6,Wa,Wb,Wc,Wd,We,Wf,Wg,Wh,Wn,Wo,Wp,Wq,Wr,Ws,Wt,Wu,Wv,Wx,Wy,W0,W3,W4,W5,W8,W9,Yb,Yc,Yd,Yg,Yh,Yk,Yw,Yy,Yz,Y0,Y1,Y4,Y5,Y6,Va,Vf,Vh,Vk,Vm,Vn,Vp,Vr,Vs,V0,V4,Uh,Ui,Uj,Uk,Ul,Um,Un,U2,Ku,U3,Kc,K7,He]
               tactic =>
                try simp only [Uy] at *
                try simp only [nc2] at *
                try simp (maxSteps := 4000000) only [con1w.eq_def,con4t.eq_def,hlb,hml,q1,q2,q3,hsa,hsb,tz,ta,tb,hcc,hos,hset,Ut,Uw,Uv,Uu,szV,Ur,Up,Us,Uo,szN,Uq,U1]
                repeat' (first | with_reducible assumption | with_reducible refine And.intro ?_ ?_ | intro _ | omega | (rw [Ux]; omega))
                all_goals first
                  | (with_reducible refine Kh ?_; kernel_rfl)
                  | omega
                  | exact ⟨_, g1⟩
                  | exact ⟨_, g4⟩
                  | exact ⟨_, g5⟩
                  | exact ⟨(k + 1, ys ++ [yk]), by ((try simp only [Uz, killAll, setSlots, updAll, upd, U9, setCs, putC, Nat.reduceDiv, Nat.reduceMod, Nat.reduceMul, Nat.reduceAdd, Nat.reduceEqDiff, List.set_cons_zero, List.set_cons_succ, if_true, if_false, reduceIte]); (first | refine Wk.of_fl ?_ | skip); simp only [Wk, wkK, wkCs, wkT, wk1, AV.kept, keptAll, wkO, lk, wkObj, and_true, true_and, and_self, Nat.reduceEqDiff, Nat.reduceLeDiff, if_true, if_false, reduceIte, reduceCtorEq, Option.isSome, false_implies]; try simp [Wk, wkK, wkT, wk1, AV.kept, keptAll, wkO, lk, wkObj, hml, hml2, hml3]), by simp only; omega, hsn, by simp only; omega⟩
                  | skip)
          · have hkl2 : k = ks.length := by omega
            rw [hkl2] at hq
            rw [hq] at hR2
            simp only [Option.map_some] at hR2
            have hcl2 := hcl _ hR2.symm
            rw [K6, List.length_cons] at hcl2
            have hfl2 := Ad ys
            have hos : optX R = (⟨m :: ndss ys⟩, true) := by rw [← hR2]; simp only [optX, K6]
            have hdr : ys ++ ks.drop k = ys := by rw [hkl2, List.drop_length, List.append_nil]
            rw [hdr] at hml ⊢
            have hsy : (sls ys).length ≤ 1000000 := by rw [hml]; omega
            (sym =>
             simp [con1w.eq_def,con4t.eq_def,hlb,hml,ev,hfl2,hx1,hy1,hw1,hR,hos,Ut,Uw,Uv,Uu,szV,Ur,Up,Us,Uo,szN,Uq,Gj,Gl,Gk,Gm,con_CastV.eq_def,con_SameT.eq_def,con_functionV.eq_def,con_isBaseV.eq_def,con_isFunV.eq_def,con_joinedV.eq_def,con_kidsV.eq_def,con_partsV.eq_def,Zb,Zc,Ze,Zf,Zg,Zo,Zp,Zq,Zv,Zy,Z9,Qb,Qd,Qe,Qf,Qn,Qo,Qp,Qq,Qs,Q1,Q2,Q4,Q8,Jf,Jh,Ji,Jj,Jk,Jl,Jx,Jy,Jz,J4,J5,J6,J7,J8,J9,Xa,Xb,Xe,Xg,Xo,Xt,Xu,Xw,X2,X4,X5,X8,X9,Wa,Wd,Wf,Wg,Wh,Wr,Ws,Wt,Wu,Wv,Wx,Wy,W8,W9,Yb,Yc,Yg,Yk,Yy,Yz,Y5,Y6,Y7,Y8,Vi,Vj,Vq,Vr,Vs,V4,V5,Ui,Uj,Uk,Ul,Um,U2,Kc,Kd]
             tactic =>
              try simp only [Uy] at *
              try simp only [nc2] at *
              try simp (maxSteps := 4000000) only [con1w.eq_def,con4t.eq_def,hlb,hml,ev,hfl2,hx1,hy1,hw1,hR,hos,Ut,Uw,Uv,Uu,szV,Ur,Up,Us,Uo,szN,Uq,U1]
              repeat' (first | with_reducible assumption | with_reducible refine And.intro ?_ ?_ | intro _ | omega | (rw [Ux]; omega))
              all_goals first
                | (with_reducible refine Kh ?_; kernel_rfl)
                | omega
                | skip))
theorem Ox : ∀ n, Good Try.prog (35, con_CastV n)
  | 0 => Bd (U0 Try.func35 (by kernel_rfl) rfl) con_CastV_zero
  | n + 1 => step_CastV n (Ox n)
end Go.Am.Ty
set_option linter.unusedSimpArgs false
set_option linter.unusedVariables false
set_option maxHeartbeats 2000000
namespace Go.Am.Ty
open Go.Proofs Go.Rose Go.Rose.Rose
open Enc (enc dec)
noncomputable def con_CastVA : Con := con_CastV 100001
theorem Pn : Good Try.prog (35, con_CastVA) := Ox _
theorem U7 : con_CastVA = con4t (fun (v : Sl VNode) (t u : Sl Node) (_ : Int) => v.l.length ≤ 100000 ∧ (∃ x, OneV v.l x) ∧ (∃ y, OneN t.l y) ∧ (∃ z, OneN u.l z) ∧ v.l.length < 100001) (fun v t u lab => optX (castR lab (treeAt arV v.l 0) (treeAt ar t.l 0) (treeAt ar u.l 0))) := rfl
noncomputable def con_FitsVA : Con := con_FitsV 1000001
theorem Pm : Good Try.prog (34, con_FitsVA) := Ow _
theorem U6 : con_FitsVA = con2 (fun (v : Sl VNode) (t : Sl Node) => v.l.length ≤ 1000000 ∧ (∃ x, OneV v.l x) ∧ (∀ m ∈ v.l, Short2 m) ∧ (∃ y, OneN t.l y) ∧ v.l.length < 1000001) (fun v t => fitsR (treeAt arV v.l 0) (treeAt ar t.l 0)) := rfl
noncomputable def con_PlainVA : Con := con_PlainV 1000001
theorem R7 : Good Try.prog (39, con_PlainVA) := Rz _
theorem Kw : con_PlainVA = con1 (fun (v : Sl VNode) => v.l.length ≤ 1000000 ∧ (∃ x, OneV v.l x) ∧ v.l.length < 1000001) (fun v => Sl.mk (nds (plainR (treeAt arV v.l 0)))) := rfl
def InVal (v : List VNode) : Prop := v.length ≤ 9223372036854775807 ∧ ∀ n ∈ v, (n.label.length ≤ 9223372036854775807 ∧ n.name.length ≤ 9223372036854775807) ∧ In n.t ∧ In n.u
theorem inW_of {v : List VNode} (h : InVal v) : InW v := ⟨h.1, fun n hn => ⟨(h.2 n hn).1, (h.2 n hn).2.1.1, (h.2 n hn).2.2.1⟩⟩
theorem few_of {v : List VNode} (h : fewV v 40 = true) : v.length ≤ 40 ∧ ∀ n ∈ v, longV n = false := by
  unfold fewV at h
  rw [Gq] at h
  refine ⟨?_, fun n hn => ?_⟩
  · rcases Nat.lt_or_ge 40 v.length with h1 | h1
    · have := h 40 h1
      simp at this
    · exact h1
  · obtain ⟨j, hj, rfl⟩ := List.getElem_of_mem hn
    have := h j hj
    rw [Bool.not_eq_true', Bool.or_eq_false_iff] at this
    have h2 := this.2
    simpa [hj] using h2
theorem Dc {v : List VNode} (h : InVal v) (hf : fewV v 40 = true) : ∀ n ∈ v, GoodN n := by
  intro n hn
  obtain ⟨⟨h1, h2⟩, ⟨h3, h4⟩, h5, h6⟩ := h.2 n hn
  have h7 := (few_of hf).2 n hn
  unfold longV at h7
  simp only [Bool.or_eq_false_iff, Gn] at h7
  exact ⟨⟨by omega, h4⟩, ⟨by omega, h6⟩, h2, h1⟩
theorem Tc {v : List VNode} (h : InVal v) : ∀ n ∈ v, Short2 n := fun n hn => ⟨(h.2 n hn).2.1.1, (h.2 n hn).2.2.1⟩
theorem I1 {v : List VNode} (h : InVal v) : InV v := ⟨h.1, Tc h⟩
noncomputable def givenB (v : List VNode) (l : List (Sl Node)) : Bool := (l.all fun t => plain7 t.l 30) && (fewV v 40 && right19 v)
noncomputable def con_given19 : Con := con2 (fun (v : Sl VNode) (l : Sl (Sl Node)) => InVal v.l ∧ l.l.length ≤ 9223372036854775807 ∧ ∀ t ∈ l.l, In t.l) (fun v l => givenB v.l l.l)
noncomputable def ctx_given19 : Ctx := ⟨tab, lkC [(24, con_Plain7), (26, con_Few19), (29, con_Right19)], 60, lkB [], [], false⟩
theorem Bh : ctx_given19.τ = tab := rfl
theorem Bj : ctx_given19.Γ = lkC [(24, con_Plain7), (26, con_Few19), (29, con_Right19)] := rfl
theorem Bi : ctx_given19.dp = 60 := rfl
theorem Bk : ctx_given19.Δ = lkB [] := rfl
theorem ctx_given19_w : ctx_given19.wr = false := rfl
set_option maxRecDepth 100000 in
theorem Pv : Good Try.prog (32, con_given19) := by
  refine ⟨U0 Try.func32 (by kernel_rfl) rfl, ?_⟩
  have K : CtxOk Try.prog ctx_given19 := U4 Ki Ka (by
    intro p hp
    simp only [List.mem_cons, List.not_mem_nil, or_false] at hp
    rcases hp with rfl | rfl | rfl
    · exact good_Plain7
    · exact good_Few19
    · exact Ce) (by simp)
  obtain ⟨c, hc⟩ : ∃ c, Try.f32.body = some c := ⟨_, rfl⟩
  refine U5 K Try.func32 hc [.tmp 4] rfl 24 rfl (fun cvs hpre => ?_)
  change con_given19.pre cvs at hpre
  unfold con_given19 at hpre
  obtain ⟨⟨v⟩, ⟨l⟩, rfl, hV, hl, hN⟩ := Kj hpre
  simp only at hV hl hN
  have hW := inW_of hV
  have ⟨w1, w2⟩ : InW v := inW_of hV
  clear hpre
  simp only [Try.f32, Option.some.injEq] at hc
  subst hc
  (sym =>
   simp [Ut,Uw,Uv,Uu,szV,Ur,Up,Us,Uo,szN,Uq,con_given19.eq_def,Za,Zb,Zc,Ze,Zf,Qq,Qs,Q1,Q2,Q4,Jw,J2,J3,Xu,X2,X4,X6,X7,Wa,Wd,Wf,Wr,Ws,Wt,Wu,Ww,Wy,W4,W5,Yw,Y7,Y8,Y9,Va,Vh,Vs,V4,V5,Uj]
   tactic =>
    try simp only [Uy] at *
    try simp only [nc2] at *
    try simp (maxSteps := 4000000) only [Ut,Uw,Uv,Uu,szV,Ur,Up,Us,Uo,szN,Uq,U1]
    refine Ke [4, 6, 7, 8, 9, 10, 11, 12, 13, 14, 15, 16, 17] (fun k : Nat => [(5, .d (.int .i64 k))]) (fun k : Nat => []) (fun k : Nat => k ≤ l.length ∧ ∀ j, j < k → plain7 (l.getD j ⟨[]⟩).l 30 = true) (fun k : Nat => l.length - k) 0 ?_ ?_ ?_
    · simp
    · ((try simp only [Uz, killAll, setSlots, updAll, upd, U9, setCs, putC, Nat.reduceDiv, Nat.reduceMod, Nat.reduceMul, Nat.reduceAdd, Nat.reduceEqDiff, List.set_cons_zero, List.set_cons_succ, if_true, if_false, reduceIte]); (first | refine Wk.of_fl ?_ | skip); simp only [Wk, wkK, wkCs, wkT, wk1, AV.kept, keptAll, wkO, lk, wkObj, and_true, true_and, and_self, Nat.reduceEqDiff, Nat.reduceLeDiff, if_true, if_false, reduceIte, reduceCtorEq, Option.isSome, false_implies]; try simp [Wk, wkK, wkT, wk1, AV.kept, keptAll, wkO, lk, wkObj])
    rintro k ⟨hk, hno⟩
    rcases Kf k l.length with ⟨hlt, hlb⟩ | ⟨hlt, hlb⟩
    · obtain ⟨hNk1, hNk2⟩ := hN (l.getD k ⟨[]⟩) (by simp [hlt])
      have q1 := U8 (⟨[]⟩ : Sl Node) hlt
      obtain ⟨⟨t⟩, ht⟩ : ∃ t, l.getD k ⟨[]⟩ = t := ⟨_, rfl⟩
      rw [ht] at q1 hNk1 hNk2
      simp only at hNk1 hNk2
      cases hb : plain7 t 30 with
      | false =>
        have hr : givenB v l = false := by
          unfold givenB
          rw [Ie (p := fun t : Sl Node => plain7 t.l 30) ⟨[]⟩ k hlt (by rw [ht]; exact hb), Bool.false_and]
        (sym =>
         simp [hlb,q1,hb,hr,Ut,Uw,Uv,Uu,szV,Ur,Up,Us,Uo,szN,Uq,Bh,Bj,Bi,Bk,con_Few19.eq_def,con_Plain7.eq_def,con_Right19.eq_def,Zb,Zc,Ze,Zf,Zg,Zo,Zp,Zq,Zv,Zy,Z6,Z9,Qb,Qc,Qd,Qe,Qf,Qn,Qo,Qp,Qq,Qs,Q1,Q2,Q4,Q8,Jf,Jj,Jk,Jl,Jx,Jy,Jz,Xe,Xt,Xu,X1,X2,X4,X5,X6,X9,Wa,Wd,Wf,Wg,Wh,Wr,Ws,Wv,Wx,Wy,Yb,Yc,Yd,Yg,Yh,Yk,Yw,Yy,Yz,Y1,Y4,Y5,Y6,Y7,Y8,Vf,Vh,Vk,Vm,Vo,Vp,Vr,Vs,V4,V5,Uh,Uj,Uk,Ul,Um,U2,Ku,U3,K7]
         tactic =>
          try simp only [Uy] at *
          try simp only [nc2] at *
          try simp (maxSteps := 4000000) only [hlb,q1,hb,hr,Ut,Uw,Uv,Uu,szV,Ur,Up,Us,Uo,szN,Uq,U1]
          repeat' (first | with_reducible assumption | with_reducible refine And.intro ?_ ?_ | intro _ | omega | (rw [Ux]; omega)))
      | true =>
        have hst : ∀ j, j < k + 1 → plain7 (l.getD j ⟨[]⟩).l 30 = true := by
          intro j hj
          by_cases hjk : j = k
          · subst hjk; rw [ht]; exact hb
          · exact hno j (by omega)
        (sym =>
         simp [hlb,q1,hb,Ut,Uw,Uv,Uu,szV,Ur,Up,Us,Uo,szN,Uq,Bh,Bj,Bi,Bk,ctx_given19_w,con_Few19.eq_def,con_Plain7.eq_def,con_Right19.eq_def,Zb,Zc,Ze,Zf,Zg,Zo,Zp,Zq,Zv,Zy,Z6,Z9,Qb,Qc,Qd,Qe,Qf,Qq,Qs,Q1,Q2,Q4,Q8,Jf,Jj,Jl,Jx,Jy,Jz,Xe,Xt,Xu,X1,X2,X4,X5,X6,Wa,Wd,Wf,Wg,Wh,Wr,Ws,Wv,Wx,Wy,Yb,Yc,Yd,Yg,Yh,Yk,Yw,Yy,Yz,Y1,Y4,Y5,Y6,Y7,Y8,Vf,Vh,Vk,Vm,Vn,Vp,Vr,Vs,V4,Uh,Ui,Uj,Uk,Ul,Um,U2,Ku,U3,K7]
         tactic =>
          try simp only [Uy] at *
          try simp only [nc2] at *
          try simp (maxSteps := 4000000) only [hlb,q1,hb,Ut,Uw,Uv,Uu,szV,Ur,Up,Us,Uo,szN,Uq,U1]
          repeat' (first | with_reducible assumption | with_reducible refine And.intro ?_ ?_ | intro _ | omega | (rw [Ux]; omega))
          all_goals exact ⟨k + 1, by ((try simp only [Uz, killAll, setSlots, updAll, upd, U9, setCs, putC, Nat.reduceDiv, Nat.reduceMod, Nat.reduceMul, Nat.reduceAdd, Nat.reduceEqDiff, List.set_cons_zero, List.set_cons_succ, if_true, if_false, reduceIte]); (first | refine Wk.of_fl ?_ | skip); simp only [Wk, wkK, wkCs, wkT, wk1, AV.kept, keptAll, wkO, lk, wkObj, and_true, true_and, and_self, Nat.reduceEqDiff, Nat.reduceLeDiff, if_true, if_false, reduceIte, reduceCtorEq, Option.isSome, false_implies]; try simp [Wk, wkK, wkT, wk1, AV.kept, keptAll, wkO, lk, wkObj]), by omega, hst, by omega⟩)
    · have hr : givenB v l = (fewV v 40 && right19 v) := by
        unfold givenB
        rw [Tw (p := fun t : Sl Node => plain7 t.l 30) ⟨[]⟩ fun j hj => hno j (by omega), Bool.true_and]
      cases hf : fewV v 40 with
      | false =>
        rw [hf, Bool.false_and] at hr
        (sym =>
         simp [hlb,hf,hr,Ut,Uw,Uv,Uu,szV,Ur,Up,Us,Uo,szN,Uq,Bh,Bj,Bi,Bk,con_Few19.eq_def,con_Plain7.eq_def,con_Right19.eq_def,Zb,Zc,Zd,Ze,Zf,Zg,Zo,Zt,Z6,Z9,Qb,Qd,Qe,Qf,Qn,Qo,Qp,Qq,Qs,Q1,Q2,Q4,Q8,Jf,Jj,Jk,Jl,Jx,Jy,Jz,Xe,Xt,Xu,X2,X4,X5,X8,X9,Wa,Wd,Wf,Wg,Wh,Wr,Ws,Wv,Wx,Wy,W6,W7,Yb,Yc,Yg,Yw,Yy,Yz,Y4,Y5,Y6,Y7,Y8,Vf,Vh,Vk,Vm,Vr,Vs,V4,V5,Ui,Uj,Uk,Ul,Um,U2,U3,K7]
         tactic =>
          try simp only [Uy] at *
          try simp only [nc2] at *
          try simp (maxSteps := 4000000) only [hlb,hf,hr,Ut,Uw,Uv,Uu,szV,Ur,Up,Us,Uo,szN,Uq,U1]
          repeat' (first | with_reducible assumption | with_reducible refine And.intro ?_ ?_ | intro _ | omega | (rw [Ux]; omega))
          all_goals first
            | exact hW
            | exact w2
            | exact w2 _ (by assumption)
            | (have := w2 _ (by assumption); simp_all [Short2]; done)
            | skip)
      | true =>
        rw [hf, Bool.true_and] at hr
        have hG := Dc hV hf
        have hle := (few_of hf).1
        (sym =>
         simp [hlb,hf,hr,Ut,Uw,Uv,Uu,szV,Ur,Up,Us,Uo,szN,Uq,Bh,Bj,Bi,Bk,con_Few19.eq_def,con_Plain7.eq_def,con_Right19.eq_def,Zb,Zc,Zd,Ze,Zf,Zg,Zo,Zt,Z6,Z9,Qb,Qd,Qe,Qf,Qn,Qo,Qp,Qq,Qs,Q1,Q2,Q4,Q8,Jf,Jj,Jk,Jl,Jx,Jy,Jz,Xe,Xt,Xu,X2,X4,X5,X8,X9,Wa,Wd,Wf,Wg,Wh,Wr,Ws,Wv,Wx,Wy,W6,W7,Yb,Yc,Yg,Yw,Yy,Yz,Y4,Y5,Y6,Y7,Y8,Vf,Vh,Vk,Vm,Vr,Vs,V4,V5,Uh,Ui,Uj,Uk,Ul,Um,U2,U3,K7]
         tactic =>
          try simp only [Uy] at *
          try simp only [nc2] at *
          try simp (maxSteps := 4000000) only [hlb,hf,hr,Ut,Uw,Uv,Uu,szV,Ur,Up,Us,Uo,szN,Uq,U1]
          repeat' (first | with_reducible assumption | with_reducible refine And.intro ?_ ?_ | intro _ | omega | (rw [Ux]; omega))
          all_goals first
            | exact hW
            | exact hG
            | omega
            | skip))
def aX : Rose VNode := mk ⟨4, [], [], 0, 1, [], []⟩ [mk ⟨0, [97], [], 1, 0, [], []⟩ []]
def aT (k : Int) : Rose Node := mk ⟨6, [], 1⟩ [mk ⟨k, [97], 0⟩ []]
theorem aT_nds (k : Int) : nds (aT k) = [⟨6, [], 1⟩, ⟨k, [97], 0⟩] := rfl
theorem aX_one : OneV [⟨4, [], [], 0, 1, [], []⟩, ⟨0, [97], [], 1, 0, [], []⟩] aX := ⟨rfl, ⟨rfl, ⟨rfl, trivial⟩, trivial⟩⟩
theorem aT_one {k : Int} (h : ar ⟨k, [97], 0⟩ = 0) : OneN [⟨6, [], 1⟩, ⟨k, [97], 0⟩] (aT k) := ⟨rfl, ⟨rfl, ⟨h.symm, trivial⟩, trivial⟩, by rw [aT_nds]; simp⟩
theorem aX_ok : okV aX 1 = true := by rfl
theorem aX_right : right19 (nds aX) = true := Bn.2 ⟨aX, rfl, ⟨aX_one.2, by decide, rfl, aX_ok⟩⟩
def con_alive19 : Con := con0 true
noncomputable def ctx_alive19 : Ctx := ⟨tab, lkC [(35, con_CastVA), (30, con_SameV), (28, con_RightV), (34, con_FitsVA)], 60, lkB [], [], false⟩
theorem ctx_alive19_t : ctx_alive19.τ = tab := rfl
theorem ctx_alive19_c : ctx_alive19.Γ = lkC [(35, con_CastVA), (30, con_SameV), (28, con_RightV), (34, con_FitsVA)] := rfl
theorem ctx_alive19_d : ctx_alive19.dp = 60 := rfl
theorem ctx_alive19_b : ctx_alive19.Δ = lkB [] := rfl
set_option maxRecDepth 100000 in
theorem Mp : Good Try.prog (27, con_alive19) := by
  refine ⟨U0 Try.func27 (by kernel_rfl) rfl, ?_⟩
  have K : CtxOk Try.prog ctx_alive19 := U4 Ki Ka (by
    intro p hp
    simp only [List.mem_cons, List.not_mem_nil, or_false] at hp
    rcases hp with rfl | rfl | rfl | rfl
    · exact Pn
    · exact Fj
    · exact Db
    · exact Pm) (by simp)
  obtain ⟨c, hc⟩ : ∃ c, Try.f27.body = some c := ⟨_, rfl⟩
  refine U5 K Try.func27 hc [.tmp 0] rfl 50 rfl (fun cvs hpre => ?_)
  change con_alive19.pre cvs at hpre
  unfold con_alive19 at hpre
  obtain rfl := con0_pre hpre
  have x1 := aX_one.tree
  have hex : ∃ x, OneV [⟨4, [], [], 0, 1, [], []⟩, ⟨0, [97], [], 1, 0, [], []⟩] x := ⟨_, aX_one⟩
  have o0 := aT_one (k := 0) rfl
  have o1 := aT_one (k := 1) rfl
  have o2 := aT_one (k := 2) rfl
  have t0 := o0.tree
  have t1 := o1.tree
  have t2 := o2.tree
  have c1 : optX (castR 3 aX (aT 0) (aT 1)) = (⟨[⟨4, [], [], 0, 1, [], []⟩, ⟨0, [97], [], 1, 0, [], []⟩]⟩, true) := by rfl
  have c2 : optX (castR 3 aX (aT 0) (aT 2)) = (⟨[]⟩, false) := by rfl
  have hs : sameV [⟨4, [], [], 0, 1, [], []⟩, ⟨0, [97], [], 1, 0, [], []⟩] [⟨4, [], [], 0, 1, [], []⟩, ⟨0, [97], [], 1, 0, [], []⟩] = true := by unfold sameV; rw [beq_self_eq_true]
  have hr : rightV [⟨4, [], [], 0, 1, [], []⟩, ⟨0, [97], [], 1, 0, [], []⟩] = true := by rw [C3]; exact aX_right
  have hf : fitsR aX (aT 0) = true := by rfl
  have hI : InV [⟨4, [], [], 0, 1, [], []⟩, ⟨0, [97], [], 1, 0, [], []⟩] := ⟨by simp, by intro n hn; simp at hn; rcases hn with rfl | rfl <;> exact ⟨by simp, by simp⟩⟩
  have hG : ∀ m ∈ [(⟨4, [], [], 0, 1, [], []⟩ : VNode), ⟨0, [97], [], 1, 0, [], []⟩], GoodN m := by
    intro n hn
    simp at hn
    rcases hn with rfl | rfl <;> exact ⟨⟨by simp, by intro m hm; simp at hm⟩, ⟨by simp, by intro m hm; simp at hm⟩, by simp, by simp⟩
  have hS : ∀ m ∈ [(⟨4, [], [], 0, 1, [], []⟩ : VNode), ⟨0, [97], [], 1, 0, [], []⟩], Short2 m := fun m hm => Rd (hG m hm)
  simp only [Try.f27, Option.some.injEq] at hc
  subst hc
  refine Kl 3 (of_decide_eq_true (by kernel_rfl)) ?_
  (sym =>
   simp [con4t.eq_def,U7,U6,Bf,Bb,x1,t0,t1,t2,c1,c2,hs,hr,hf,Ut,Uw,Uv,Uu,szV,Ur,Up,Us,Uo,szN,Uq,ctx_alive19_t,ctx_alive19_c,ctx_alive19_d,ctx_alive19_b,con_RightV.eq_def,con_SameV.eq_def,con_alive19.eq_def,Zb,Zc,Zd,Ze,Zf,Zo,Zr,Zt,Z1,Z2,Z8,Z9,Qc,Qd,Qe,Qf,Qg,Qh,Ql,Qn,Qo,Qp,Qq,Qs,Q1,Q2,Q4,Q7,Q8,Q9,Ja,Jb,Jc,Jd,Je,Jf,Jg,Jh,Ji,Jj,Jk,Jl,Jw,J2,J3,J4,J5,J6,J7,J8,J9,Xa,Xb,Xc,Xd,Xe,Xf,Xg,Xi,Xk,Xl,Xm,Xn,Xq,Xr,Xs,Xt,Xu,X2,X4,X9,Wa,Wd,Wf,Wg,Wh,Wj,Wl,Wr,Ws,Wt,Wu,Wv,Ww,Wx,Wy,Wz,W0,W3,W4,W5,W6,W7,W8,W9,Yd,Yh,Yl,Ym,Yo,Yw,Y5,Y6,Y7,Y8,Va,Vb,Vc,Vd,Ve,Vf,Vh,Vi,Vk,Vm,Vo,Vr,Vs,V3,V4,V5,V6,V8,V9,Ua,Ub,Uh,Uj,Uk,Ul,Ku,U3,Kb,Kc,Kd]
   tactic =>
    try simp only [Uy] at *
    try simp only [nc2] at *
    try simp (maxSteps := 4000000) only [con4t.eq_def,U7,U6,Bf,Bb,x1,t0,t1,t2,c1,c2,hs,hr,hf,Ut,Uw,Uv,Uu,szV,Ur,Up,Us,Uo,szN,Uq,U1]
    repeat' (first | with_reducible assumption | with_reducible refine And.intro ?_ ?_ | intro _ | omega | (rw [Ux]; omega))
    all_goals first
      | exact hex
      | exact ⟨_, o0⟩
      | exact ⟨_, o1⟩
      | exact ⟨_, o2⟩
      | exact hI
      | exact hG
      | exact hS
      | exact hG _ (by simp)
      | exact hS _ (by simp)
      | (with_reducible refine Kh ?_; kernel_rfl)
      | omega
      | skip)
end Go.Am.Ty
set_option linter.unusedSimpArgs false
set_option linter.unusedVariables false
set_option maxHeartbeats 2000000
namespace Go.Am.Ty
open Go.Proofs Go.Rose Go.Rose.Rose
open Enc (enc dec)
def con_ValueMay : Con := con2 (fun (a b : Sl VNode) => InVal a.l ∧ InVal b.l) (fun _ _ => true)
noncomputable def ctx_ValueMay : Ctx := ⟨tab, lkC [(26, con_Few19), (27, con_alive19), (28, con_RightV), (29, con_Right19), (30, con_SameV), (31, con_Same19)], 60, lkB [], [], false⟩
theorem Sm : ctx_ValueMay.τ = tab := rfl
theorem So : ctx_ValueMay.Γ = lkC [(26, con_Few19), (27, con_alive19), (28, con_RightV), (29, con_Right19), (30, con_SameV), (31, con_Same19)] := rfl
theorem Sn : ctx_ValueMay.dp = 60 := rfl
theorem Sp : ctx_ValueMay.Δ = lkB [] := rfl
set_option maxRecDepth 100000 in
theorem good_ValueMay : Good Try.prog (7, con_ValueMay) := by
  refine ⟨U0 Try.func7 (by kernel_rfl) rfl, ?_⟩
  have K : CtxOk Try.prog ctx_ValueMay := U4 Ki Ka (by
    intro p hp
    simp only [List.mem_cons, List.not_mem_nil, or_false] at hp
    rcases hp with rfl | rfl | rfl | rfl | rfl | rfl
    · exact good_Few19
    · exact Mp
    · exact Db
    · exact Ce
    · exact Fj
    · exact O2) (by simp)
  obtain ⟨c, hc⟩ : ∃ c, Try.f7.body = some c := ⟨_, rfl⟩
  refine U5 K Try.func7 hc [.tmp 4] rfl 31 rfl (fun cvs hpre => ?_)
  change con_ValueMay.pre cvs at hpre
  unfold con_ValueMay at hpre
  obtain ⟨⟨a⟩, ⟨b⟩, rfl, hA, hB⟩ := Kj hpre
  have hA' : InVal a := hA
  have hB' : InVal b := hB
  have wA := inW_of hA'
  have wB := inW_of hB'
  have vA := I1 hA'
  have vB := I1 hB'
  have hr := C3 a
  clear hpre
  simp only [Try.f7, Option.some.injEq] at hc
  subst hc
  cases fa : fewV a 40 with
  | false =>
    (sym =>
     simp [fa,Ut,Uw,Uv,Uu,szV,Sm,So,Sn,Sp,con_Few19.eq_def,con_Right19.eq_def,con_RightV.eq_def,con_Same19.eq_def,con_SameV.eq_def,con_ValueMay.eq_def,con_alive19.eq_def,Za,Zb,Zc,Zd,Ze,Zf,Zt,Z9,Qc,Qd,Qe,Qf,Qn,Qo,Qp,Qq,Qs,Q1,Q2,Q4,Q8,Jf,Jj,Jk,Jl,Jw,J2,J3,Xe,Xs,Xt,Xu,X2,X4,X5,X9,Wa,Wd,Wf,Wg,Wr,Ws,Wt,Wu,Wv,Ww,Wx,Wy,W4,W5,W6,W7,Yd,Yh,Yw,Y5,Y6,Y7,Y8,Y9,Va,Vf,Vh,Vk,Vm,Vo,Vs,V4,V5,Uh,Uj,Uk,Ku]
     tactic =>
      try simp only [Uy] at *
      try simp only [nc2] at *
      try simp (maxSteps := 4000000) only [fa,Ut,Uw,Uv,Uu,szV,U1]
      repeat' (first | with_reducible assumption | with_reducible refine And.intro ?_ ?_ | intro _ | omega | (rw [Ux]; omega))
      all_goals first
        | exact wA
        | exact wA.1
        | exact wA.2
        | exact wA.2 _ (by assumption)
        | (have := wA.2 _ (by assumption); simp_all [Short2]; done)
        | skip)
  | true =>
    cases fb : fewV b 40 with
    | false =>
      (sym =>
       simp [fa,fb,Ut,Uw,Uv,Uu,szV,Sm,So,Sn,Sp,con_Few19.eq_def,con_Right19.eq_def,con_RightV.eq_def,con_Same19.eq_def,con_SameV.eq_def,con_ValueMay.eq_def,con_alive19.eq_def,Za,Zb,Zc,Zd,Ze,Zf,Zt,Z9,Qc,Qd,Qe,Qf,Qn,Qo,Qp,Qq,Qs,Q1,Q2,Q4,Q8,Jf,Jj,Jk,Jl,Jw,J2,J3,Xe,Xs,Xt,Xu,X2,X4,X5,X9,Wa,Wd,Wf,Wg,Wr,Ws,Wt,Wu,Wv,Ww,Wx,Wy,W4,W5,W6,W7,Yd,Yh,Yw,Y5,Y6,Y7,Y8,Y9,Va,Vf,Vh,Vk,Vm,Vn,Vo,Vs,V4,V5,Uh,Ui,Uj,Uk,Ku]
       tactic =>
        try simp only [Uy] at *
        try simp only [nc2] at *
        try simp (maxSteps := 4000000) only [fa,fb,Ut,Uw,Uv,Uu,szV,U1]
        repeat' (first | with_reducible assumption | with_reducible refine And.intro ?_ ?_ | intro _ | omega | (rw [Ux]; omega))
        all_goals first
          | exact wA
          | exact wB
          | skip)
    | true =>
      have gA := Dc hA' fa
      have gB := Dc hB' fb
      have lA := (few_of fa).1
      have lB := (few_of fb).1
      (sym =>
       simp [fa,fb,hr,Ut,Uw,Uv,Uu,szV,Sm,So,Sn,Sp,con_Few19.eq_def,con_Right19.eq_def,con_RightV.eq_def,con_Same19.eq_def,con_SameV.eq_def,con_ValueMay.eq_def,con_alive19.eq_def,Za,Zb,Zc,Zd,Ze,Zf,Zt,Z9,Qb,Qc,Qd,Qe,Qf,Qn,Qo,Qp,Qq,Qs,Q1,Q2,Q4,Q8,Jf,Jj,Jk,Jl,Jw,J2,J3,Xe,Xs,Xt,Xu,X1,X2,X4,X5,X9,Wa,Wd,Wf,Wg,Wr,Ws,Wt,Wu,Wv,Ww,Wx,Wy,W4,W5,W6,W7,Yd,Yh,Yw,Y5,Y6,Y7,Y8,Y9,Va,Vf,Vh,Vk,Vm,Vn,Vs,V4,V5,Uh,Ui,Uj,Uk,Ul,Ku]
       tactic =>
        try simp only [Uy] at *
        try simp only [nc2] at *
        try simp (maxSteps := 4000000) only [fa,fb,hr,Ut,Uw,Uv,Uu,szV,U1]
        repeat' (first | with_reducible assumption | with_reducible refine And.intro ?_ ?_ | intro _ | omega | (rw [Ux]; omega))
        all_goals first
          | exact wA
          | exact wB
          | exact vA
          | exact vB
          | exact gA
          | exact gB
          | omega
          | simp
          | skip)
end Go.Am.Ty
set_option linter.unusedSimpArgs false
set_option linter.unusedVariables false
set_option maxHeartbeats 2000000
namespace Go.Am.Ty
open Go.Proofs Go.Rose Go.Rose.Rose
open Enc (enc dec)
def PT (y : Rose Node) : Prop := RT y ∧ plain3 (nds y) = true
theorem PT.ty {y : Rose Node} (h : PT y) : TyT y := ⟨h.1.wf, by have := h.1.len; omega⟩
theorem clrX_depth (x : Rose Node) : depth (clrX x) = depth x := by cases x; rfl
theorem labT_clrX : ∀ x : Rose Node, labT (clrX x) = labT x
  | mk n ks => by
    rw [clrX, labT, labT]
    rfl
theorem labTs_get : ∀ {ks : List (Rose Node)}, labTs ks = true → ∀ j (h : j < ks.length), labT ks[j] = true
  | [], _, j, h => by simp at h
  | x :: xs, hl, j, h => by
    rw [labTs, Bool.and_eq_true] at hl
    cases j with
    | zero => exact hl.1
    | succ j => exact labTs_get hl.2 j (by simpa using h)
theorem depths_at : ∀ {ks : List (Rose Node)} (j) (h : j < ks.length), depth ks[j] ≤ depths ks
  | [], j, h => by simp at h
  | x :: xs, j, h => by
    rw [depths]
    cases j with
    | zero => simp only [List.getElem_cons_zero]; omega
    | succ j => have := depths_at (ks := xs) j (by simpa using h); simp only [List.getElem_cons_succ]; omega
theorem kid_memN {x : Rose Node} {i : Nat} (h : i < x.kids.length) : ∀ m ∈ nds x.kids[i], m ∈ nds x := by
  intro m hm
  rw [Gx]
  refine List.mem_cons_of_mem _ ?_
  generalize x.kids = ks at h hm ⊢
  induction ks generalizing i with
  | nil => simp at h
  | cons y ys ih =>
    rw [ndss, List.mem_append]
    cases i with
    | zero => exact .inl hm
    | succ i => exact .inr (ih (by simpa using h) (by simpa using hm))
theorem pt_kid {t : Rose Node} (h : PT t) {j : Nat} (hj : j < t.kids.length) : PT (clrX t.kids[j]) := by
  obtain ⟨h1, h2⟩ := h
  have hm := kid_memN hj
  have hn : Numb (nds t.kids[j]) := fun n hn => h1.numb n (hm n hn)
  have hp : plain3 (nds t.kids[j]) = true := by
    rw [Md] at *
    exact fun n hn => h2 n (hm n hn)
  have hw := C1.1 h1.wf
  have hd := h1.depth
  have hl := h1.lab
  have hlen := h1.len
  have hd2 := depths_at j hj
  have hlen2 := ndsN_get hj
  obtain ⟨n, ks⟩ := t
  simp only [kids, root] at *
  rw [depth] at hd
  rw [labT, Bool.and_eq_true] at hl
  rw [K6, List.length_cons] at hlen
  have hcn : Numb (nds (clrX ks[j])) := by rw [L9]; exact clr_numb hn
  have hcp : plain3 (nds (clrX ks[j])) = true := by rw [L9]; exact clr_plain hp
  refine ⟨⟨B4 (Pt hw.2 _ (List.getElem_mem hj)), hcn, by rw [clrX_depth]; omega, by rw [labT_clrX]; exact labTs_get hl.2 j hj, ?_, ?_, by rw [clrX_nlen]; omega⟩, hcp⟩
  · cases ks[j]; rfl
  · exact (Md.1 hcp _ (L4 _)).2
theorem pt_dyn : PT dynT := ⟨⟨⟨rfl, trivial⟩, by intro n hn; rw [Th, List.mem_singleton] at hn; rw [hn]; rfl, by decide, rfl, rfl, by decide, by rw [Th]; decide⟩, rfl⟩
theorem D0 : PT dynFT := by
  refine ⟨⟨⟨rfl, ⟨rfl, trivial⟩, ⟨rfl, trivial⟩, trivial⟩, ?_, by decide, rfl, rfl, by decide, by rw [Iv]; decide⟩, rfl⟩
  intro n hn
  have : n = ⟨5, [], 0⟩ ∨ n = ⟨0, [], 0⟩ ∨ n = ⟨0, [], 0⟩ := by
    have h : n ∈ [(⟨5, [], 0⟩ : Node), ⟨0, [], 0⟩, ⟨0, [], 0⟩] := hn
    simpa using h
  rcases this with rfl | rfl | rfl <;> rfl
theorem Bo {n : VNode} {ks : List (Rose VNode)} {t : Rose Node} {l : List (Rose Node)} (ht : PT t) (h : partsR n ks t = some l) : ∀ y ∈ l, PT y :=
  Iq h pt_dyn fun _ hj => pt_kid ht hj
theorem Nu {t : List Node} {m : Int} (h : plain7 t m = true) : (t.length : Int) ≤ m ∧ ∃ y, t = nds y ∧ PT y := by
  obtain ⟨h1, _, h2, y, rfl, hy⟩ := plain7_rt h
  exact ⟨h1, y, rfl, hy, h2⟩
mutual
def normX : Rose Node → Rose Node
  | mk n ks => mk (norm n) (normXs ks)
def normXs : List (Rose Node) → List (Rose Node)
  | [] => []
  | x :: xs => normX x :: normXs xs
end
theorem L7 : ∀ ks : List (Rose Node), normXs ks = ks.map normX
  | [] => rfl
  | x :: xs => by rw [normXs, L7, List.map_cons]
mutual
theorem nds_normX : ∀ x : Rose Node, nds (normX x) = (nds x).map norm
  | mk n ks => by rw [normX, K6, K6, List.map_cons, ndss_normX]
theorem ndss_normX : ∀ ks : List (Rose Node), ndss (normXs ks) = (ndss ks).map norm
  | [] => rfl
  | x :: xs => by rw [normXs, ndss, ndss, List.map_append, nds_normX, ndss_normX]
end
theorem Pe (n : Node) : (norm n).kind = n.kind := by unfold norm; split <;> rfl
theorem B6 (n : Node) : (norm n).name = n.name := by unfold norm; split <;> rfl
theorem norm_n {n : Node} (h : n.kind ≠ 0) : (norm n).n = n.n := by unfold norm; rw [if_neg h]
theorem norm_norm (n : Node) : norm (norm n) = norm n := by
  unfold norm
  by_cases h : n.kind = 0
  · simp [h]
  · simp [h]
theorem norm_ar (n : Node) : ar (norm n) = ar n := by
  by_cases h : n.kind = 0
  · rw [numb_ar0 h, numb_ar0 (by rw [Pe]; exact h)]
  · unfold norm; rw [if_neg h]
theorem norm_clr (n : Node) : norm (clrN n) = clrN (norm n) := by
  unfold norm clrN
  by_cases h : n.kind = 0 <;> simp [h]
theorem Nr (x : Rose Node) : (normX x).root = norm x.root := by cases x; rfl
theorem normX_kids (x : Rose Node) : (normX x).kids = x.kids.map normX := by cases x; rw [normX, L7]; rfl
theorem It : ∀ x : Rose Node, normX (clrX x) = clrX (normX x)
  | mk n ks => by
    rw [clrX, normX, normX, clrX, norm_clr]
mutual
theorem wf_normX : ∀ {x : Rose Node}, wf ar x → wf ar (normX x)
  | mk n ks, h => by
    rw [normX]
    exact ⟨by rw [norm_ar, ← h.1, L7, List.length_map], wfs_normX h.2⟩
theorem wfs_normX : ∀ {ks : List (Rose Node)}, wfs ar ks → wfs ar (normXs ks)
  | [], _ => trivial
  | x :: xs, h => ⟨wf_normX h.1, wfs_normX h.2⟩
end
theorem same3_norm {x y : Rose Node} (hx : wf ar x) (hy : wf ar y) : same3 (nds x) (nds y) = true ↔ normX x = normX y := by
  unfold same3
  rw [beq_iff_eq, ← nds_normX, ← nds_normX]
  constructor
  · intro h
    exact (nds_inj (r := []) (s := []) (wf_normX hx) (wf_normX hy) (by rw [h])).1
  · intro h
    rw [h]
theorem Oi (a b : List Node) : same3 a (b.map norm) = same3 a b := by
  unfold same3
  rw [List.map_map]
  congr 2
  funext n
  exact norm_norm n
theorem Oj (a b : List Node) : same3 (a.map norm) b = same3 a b := by
  unfold same3
  rw [List.map_map]
  congr 2
  funext n
  exact norm_norm n
theorem same3_trans {a b c : List Node} (h1 : same3 a b = true) (h2 : same3 b c = true) : same3 a c = true := by
  unfold same3 at *
  rw [beq_iff_eq] at *
  exact h1.trans h2
theorem E8 {x y : Rose Node} (h : same3 (nds x) (nds y) = true) : x.root.kind = y.root.kind := by
  unfold same3 at h
  rw [beq_iff_eq, Gx, Gx, List.map_cons, List.map_cons, List.cons.injEq] at h
  have := congrArg Node.kind h.1
  rwa [Pe, Pe] at this
theorem findIdx_norm (ks : List (Rose Node)) (s : List UInt8) : (ks.map normX).findIdx? (fun k => k.root.name == s) = ks.findIdx? (fun k => k.root.name == s) := by
  induction ks with
  | nil => rfl
  | cons x xs ih =>
    rw [List.map_cons, List.findIdx?_cons, List.findIdx?_cons, ih, Nr, B6]
theorem field_norm (t : Rose Node) (s : List UInt8) : fieldR (normX t) s = (fieldR t s).map normX := by
  unfold fieldR
  rw [normX_kids, findIdx_norm]
  cases h : t.kids.findIdx? (fun k => k.root.name == s) with
  | none => rfl
  | some j =>
    have hj : j < t.kids.length := (List.findIdx?_eq_some_iff_getElem.1 h).1
    simp only [Option.map_some]
    rw [It]
    simp [hj]
theorem O8 (t : Rose Node) : ∀ ks : List (Rose VNode), fieldsR (normX t) ks = (fieldsR t ks).map (List.map normX)
  | [] => rfl
  | k :: ks => by
    rw [fieldsR, fieldsR, field_norm, O8 t ks]
    cases fieldR t k.root.label with
    | none => rfl
    | some y =>
      simp only [Option.map_some]
      cases fieldsR t ks <;> rfl
theorem parts_norm (n : VNode) (ks : List (Rose VNode)) (t : Rose Node) : partsR n ks (normX t) = (partsR n ks t).map (List.map normX) := by
  unfold partsR
  rw [Nr, Pe]
  cases h0 : (t.root.kind == 0) with
  | true =>
    simp only [cond_true, Option.map_some, List.map_replicate]
    rfl
  | false =>
    simp only [cond_false]
    rw [norm_n (by simpa using h0)]
    cases h1 : (t.root.kind == 7 && n.kind == 5) with
    | true =>
      simp only [cond_true]
      rw [field_norm]
      cases fieldR t n.name <;> rfl
    | false =>
      simp only [cond_false]
      cases h2 : (t.root.kind == 6 && (n.kind == 4 && t.root.n == (ks.length : Int))) with
      | true => simp only [cond_true]; exact O8 t ks
      | false => rfl
mutual
theorem fits_norm : ∀ (x : Rose VNode) (t : Rose Node), fitsR x (normX t) = fitsR x t
  | mk n ks, t => by
    rw [fitsR, fitsR, Nr, Pe, nds_normX, Oi, parts_norm]
    cases hp : partsR n ks t with
    | none => rfl
    | some l =>
      simp only [Option.map_some]
      rw [fitss_norm ks l]
theorem fitss_norm : ∀ (ks : List (Rose VNode)) (l : List (Rose Node)), fitsRs ks (l.map normX) = fitsRs ks l
  | [], l => by rw [fitsRs, fitsRs]
  | k :: ks, l => by
    rw [fitsRs, fitsRs, ← List.map_tail, fitss_norm ks l.tail]
    congr 1
    cases l with
    | nil => rfl
    | cons a r => exact fits_norm k a
end
theorem fits_same {x : Rose VNode} {t u : Rose Node} (ht : wf ar t) (hu : wf ar u) (h : same3 (nds t) (nds u) = true) : fitsR x t = fitsR x u := by
  rw [← fits_norm x t, (same3_norm ht hu).1 h, fits_norm]
theorem La (ks : List (Rose Node)) (s : List UInt8) : ks.findIdx? (fun k => k.root.name == s) = (labs ks).findIdx? (fun a => a == s) := by
  unfold labs
  rw [List.findIdx?_map]
  rfl
theorem field_none {t u : Rose Node} {s : List UInt8} (hl : labs t.kids = labs u.kids) (h : fieldR t s = none) : fieldR u s = none := by
  unfold fieldR at *
  rw [Option.map_eq_none_iff] at *
  rw [La, ← hl, ← La]
  exact h
theorem field_ag {f : Bool} {t u y z : Rose Node} {s : List UInt8} (hl : labs t.kids = labs u.kids) (hk : ∀ j, j < t.kids.length → agX f (t.kids.getD j (mk n0 [])) (u.kids.getD j (mk n0 [])) = true) (h1 : fieldR t s = some y) (h2 : fieldR u s = some z) : agX f y z = true := by
  unfold fieldR at h1 h2
  rw [La] at h1 h2
  rw [← hl] at h2
  rw [← La] at h1 h2
  rw [Option.map_eq_some_iff] at h1 h2
  obtain ⟨j, g1, rfl⟩ := h1
  obtain ⟨i, g2, rfl⟩ := h2
  rw [g1] at g2
  injection g2 with g2
  subst g2
  rw [agX_clr]
  exact hk j (List.findIdx?_eq_some_iff_getElem.1 g1).1
theorem Fn {t : Rose Node} : ∀ {ks : List (Rose VNode)} {l : List (Rose Node)}, fieldsR t ks = some l → ∀ j (h : j < ks.length) (h2 : j < l.length), fieldR t ks[j].root.label = some l[j]
  | [], l, _, j, h, _ => by simp at h
  | k :: ks, l, hf, j, h, h2 => by
    rw [fieldsR] at hf
    cases hx : fieldR t k.root.label with
    | none => rw [hx] at hf; cases hf
    | some y =>
      rw [hx] at hf
      simp only [Option.map_eq_some_iff] at hf
      obtain ⟨l', g1, rfl⟩ := hf
      cases j with
      | zero => exact hx
      | succ j => exact Fn g1 j (by simpa using h) (by simpa using h2)
theorem O7 {t u : Rose Node} (hl : labs t.kids = labs u.kids) : ∀ {ks : List (Rose VNode)} {l : List (Rose Node)}, fieldsR t ks = some l → ∃ l', fieldsR u ks = some l'
  | [], l, _ => ⟨[], rfl⟩
  | k :: ks, l, h => by
    rw [fieldsR] at h
    cases hx : fieldR t k.root.label with
    | none => rw [hx] at h; cases h
    | some y =>
      rw [hx] at h
      simp only [Option.map_eq_some_iff] at h
      obtain ⟨l', g1, rfl⟩ := h
      obtain ⟨m, hm⟩ := O7 hl g1
      cases hu : fieldR u k.root.label with
      | none => rw [field_none hl.symm hu] at hx; cases hx
      | some z => exact ⟨z :: m, by rw [fieldsR, hu, hm]; rfl⟩
theorem Tx {f : Bool} {t u : Rose Node} (ht : PT t) (hu : PT u) (h0 : t.root.kind ≠ 0) (h1 : u.root.kind ≠ 0) (h : agX f t u = true) :
    t.root.kind = u.root.kind ∧ labs t.kids = labs u.kids ∧ t.root.n = u.root.n ∧ ∀ j, j < t.kids.length → agX f (t.kids.getD j (mk n0 [])) (u.kids.getD j (mk n0 [])) = true := by
  have := (ag_iff ht.1.wf hu.1.wf ht.1.numb hu.1.numb ht.2 h0 h1).1 h
  obtain ⟨g1, g2⟩ := this
  unfold alikeX at g1
  rw [Bool.and_eq_true, beq_iff_eq, beq_iff_eq] at g1
  refine ⟨g1.1, g1.2, ?_, g2⟩
  have hl : t.kids.length = u.kids.length := by rw [← Nv (ks := t.kids), g1.2, Nv]
  exact num_eq g1.1 (by rw [← (C1.1 ht.1.wf).1, ← (C1.1 hu.1.wf).1, hl]) h0 (ht.1.numb _ (L4 t)) (hu.1.numb _ (L4 u)) (Md.1 ht.2 _ (L4 t))
theorem ag_dyn2 {f : Bool} {x : Rose Node} : agX f x dynT = true := by
  rw [Ig (.inr rfl)]
  unfold askB
  cases f <;> rfl
theorem ag_dyn1 {x : Rose Node} : agX false dynT x = true := by
  rw [Ig (.inl rfl)]
  rfl
theorem Ly {t u : Rose Node} (h : agX true t u = true) (h0 : t.root.kind = 0) : u.root.kind = 0 := by
  rw [Ig (.inl h0)] at h
  simpa [askB] using h
theorem Rk {f : Bool} {n : VNode} {ks : List (Rose VNode)} {t u : Rose Node} {a b : List (Rose Node)} (ht : PT t) (hu : PT u) (hk : n.kind = 5 → ks.length = 1) (h : agX f t u = true) (ha : partsR n ks t = some a) (hb : partsR n ks u = some b) :
    ∀ j, j < ks.length → agX f (a.getD j dynT) (b.getD j dynT) = true := by
  intro j hj
  have hal := Pd ha hk
  have hbl := Pd hb hk
  by_cases u0 : u.root.kind = 0
  · have : b = List.replicate ks.length dynT := by
      unfold partsR at hb
      rw [show (u.root.kind == 0) = true by simp [u0], cond_true] at hb
      injection hb with hb
      exact hb.symm
    rw [this]
    simp only [List.getD_eq_getElem?_getD, List.getElem?_replicate, hj, if_true, Option.getD_some]
    exact ag_dyn2
  · by_cases t0 : t.root.kind = 0
    · have : a = List.replicate ks.length dynT := by
        unfold partsR at ha
        rw [show (t.root.kind == 0) = true by simp [t0], cond_true] at ha
        injection ha with ha
        exact ha.symm
      rw [this]
      simp only [List.getD_eq_getElem?_getD, List.getElem?_replicate, hj, if_true, Option.getD_some]
      cases f with
      | false => exact ag_dyn1
      | true => exact absurd (Ly h t0) u0
    · obtain ⟨g1, g2, g3, g4⟩ := Tx ht hu t0 u0 h
      unfold partsR at ha hb
      rw [show (t.root.kind == 0) = false by simp [t0], cond_false] at ha
      rw [show (u.root.kind == 0) = false by simp [u0], cond_false] at hb
      rw [← g1, ← g3] at hb
      cases c1 : (t.root.kind == 7 && n.kind == 5) with
      | true =>
        rw [c1, cond_true, Option.map_eq_some_iff] at ha hb
        obtain ⟨y, y1, rfl⟩ := ha
        obtain ⟨z, z1, rfl⟩ := hb
        simp only [List.length_singleton] at hal
        have : j = 0 := by omega
        subst this
        exact field_ag g2 g4 y1 z1
      | false =>
        rw [c1, cond_false] at ha hb
        cases c2 : (t.root.kind == 6 && (n.kind == 4 && t.root.n == (ks.length : Int))) with
        | false => rw [c2, cond_false] at ha; cases ha
        | true =>
          rw [c2, cond_true] at ha hb
          have q1 := Fn ha j hj (by omega)
          have q2 := Fn hb j hj (by omega)
          have := field_ag g2 g4 q1 q2
          simpa [hal, hbl, hj] using this
theorem Fb {n : VNode} {ks : List (Rose VNode)} {t u : Rose Node} {a : List (Rose Node)} (ht : PT t) (hu : PT u) (h : agX true t u = true) (ha : partsR n ks t = some a) : ∃ b, partsR n ks u = some b := by
  by_cases u0 : u.root.kind = 0
  · exact ⟨_, by unfold partsR; rw [show (u.root.kind == 0) = true by simp [u0], cond_true]⟩
  · have t0 : t.root.kind ≠ 0 := fun t0 => u0 (Ly h t0)
    obtain ⟨g1, g2, g3, _⟩ := Tx ht hu t0 u0 h
    unfold partsR at ha ⊢
    rw [show (t.root.kind == 0) = false by simp [t0], cond_false] at ha
    rw [show (u.root.kind == 0) = false by simp [u0], cond_false]
    rw [← g1, ← g3]
    cases c1 : (t.root.kind == 7 && n.kind == 5) with
    | true =>
      rw [c1, cond_true, Option.map_eq_some_iff] at ha
      rw [cond_true]
      obtain ⟨y, y1, rfl⟩ := ha
      cases hf : fieldR u n.name with
      | none => rw [field_none g2.symm hf] at y1; cases y1
      | some z => exact ⟨[z], rfl⟩
    | false =>
      rw [c1, cond_false] at ha
      rw [cond_false]
      cases c2 : (t.root.kind == 6 && (n.kind == 4 && t.root.n == (ks.length : Int))) with
      | false => rw [c2, cond_false] at ha; cases ha
      | true =>
        rw [c2, cond_true] at ha
        exact O7 g2 ha
theorem Ds {x y : Rose Node} (hx : wf ar x) (hy : wf ar y) (h : agX true x y = true) : agX false x y = true := by
  unfold agX at *
  exact under_agree (B4 hx) (B4 hx) (B4 hy) (ov_refl _ _) h
end Go.Am.Ty
set_option linter.unusedSimpArgs false
set_option linter.unusedVariables false
set_option maxHeartbeats 2000000
namespace Go.Am.Ty
open Go.Proofs Go.Rose Go.Rose.Rose
open Enc (enc dec)
theorem St {α : Type} {n : α} {ks : List (Rose α)} : (mk n ks).root = n := rfl
theorem kids_mk {α : Type} {n : α} {ks : List (Rose α)} : (mk n ks).kids = ks := rfl
theorem norm_numb {n : Node} (h : numb3 n = true) : numb3 (norm n) = true := by
  unfold norm
  split
  · next h0 =>
    unfold numb3
    rw [if_pos (.inl h0)]
    simp
  · exact h
mutual
theorem depth_normX : ∀ x : Rose Node, depth (normX x) = depth x
  | mk n ks => by rw [normX, depth, depth, depths_normX]
theorem depths_normX : ∀ ks : List (Rose Node), depths (normXs ks) = depths ks
  | [] => rfl
  | x :: xs => by rw [normXs, depths, depths, depth_normX, depths_normX]
end
theorem labK_norm {p x q : Node} {a b : Bool} : labK (norm p) (norm x) (norm q) a b = labK p x q a b := by
  unfold labK isRow3
  rw [Pe, Pe, B6, B6]
theorem Oq (ks : List (Rose Node)) (k : Nat) : ((normXs ks).getD k (mk n0 [])).root = norm (ks.getD k (mk n0 [])).root := by
  rw [L7]
  by_cases h : k < ks.length
  · simp [h, Nr]
  · rw [List.getD_eq_getElem?_getD, List.getElem?_eq_none (by simpa using h), List.getD_eq_getElem?_getD, List.getElem?_eq_none (by omega)]
    rfl
theorem labZ_norm (n : Node) (ks : List (Rose Node)) : labZ (norm n) (normXs ks) = labZ n ks := by
  unfold labZ
  rw [show (normXs ks).length = ks.length by rw [L7, List.length_map]]
  congr 1
  funext k
  rw [Oq, Oq, labK_norm]
mutual
theorem labT_normX : ∀ x : Rose Node, labT (normX x) = labT x
  | mk n ks => by rw [normX, labT, labT, labZ_norm, labTs_normX]
theorem labTs_normX : ∀ ks : List (Rose Node), labTs (normXs ks) = labTs ks
  | [] => rfl
  | x :: xs => by rw [normXs, labTs, labTs, labT_normX, labTs_normX]
end
theorem pt_norm {t : Rose Node} (h : PT t) : PT (normX t) := by
  obtain ⟨h1, h2⟩ := h
  refine ⟨⟨wf_normX h1.wf, ?_, by rw [depth_normX]; exact h1.depth, by rw [labT_normX]; exact h1.lab, by rw [Nr, B6]; exact h1.name, by rw [Nr, Pe]; exact h1.kind, by rw [nds_normX, List.length_map]; exact h1.len⟩, ?_⟩
  · intro n hn
    rw [nds_normX, List.mem_map] at hn
    obtain ⟨m, hm, rfl⟩ := hn
    exact norm_numb (h1.numb m hm)
  · rw [Md] at *
    intro n hn
    rw [nds_normX, List.mem_map] at hn
    obtain ⟨m, hm, rfl⟩ := hn
    rw [Pe]
    exact h2 m hm
mutual
theorem ov_norm {f : Bool} : ∀ x y : Rose Node, ov f (normX x) (normX y) = ov f x y
  | mk n ks, mk m qs => by
    rw [normX, normX, Ep, Ep]
    simp only [root, kids, Pe]
    cases h : (n.kind == 0 || m.kind == 0) with
    | true => simp only [cond_true, askB, Pe]
    | false =>
      rw [Bool.or_eq_false_iff, beq_eq_false_iff_ne, beq_eq_false_iff_ne] at h
      simp only [cond_false]
      rw [ovs_norm ks qs]
      unfold sameN
      rw [Pe, Pe, B6, B6, norm_n h.1, norm_n h.2]
theorem ovs_norm {f : Bool} : ∀ xs ys : List (Rose Node), ovs f (normXs xs) (normXs ys) = ovs f xs ys
  | [], [] => rfl
  | [], y :: ys => by rw [normXs, normXs, ovs, ovs]
  | x :: xs, [] => by rw [normXs, normXs, ovs, ovs]
  | x :: xs, y :: ys => by rw [normXs, normXs, ovs, ovs, ov_norm x y, ovs_norm xs ys, Nr, Nr, B6, B6]
end
theorem ag_norm {f : Bool} (x y : Rose Node) : agX f (normX x) (normX y) = agX f x y := by
  unfold agX
  rw [← It, ← It, ov_norm]
theorem arrR_pt {t : Rose Node} (h : PT t) : PT (arrR t) := by
  unfold arrR
  cases t.root.kind == 0 with
  | true => exact D0
  | false => exact h
theorem arrow_pt {t : Rose Node} (h : PT t) (h5 : t.root.kind = 5) : arrowB (nds t) = true := by
  rw [Ns]
  refine ⟨right3_rt h.1, h.2, ?_⟩
  rw [Gx]
  simp [h5]
theorem root_arrow {t : Rose Node} (h : arrowB (nds t) = true) : t.root.kind = 5 := by
  have := (Ns.1 h).2.2
  rw [Gx] at this
  simpa using this
theorem Of {u : Rose Node} (hu : PT u) (h5 : u.root.kind = 5) : agX false dynFT u = true := by
  have hw := (C1.1 hu.1.wf).1
  have hk : u.kids.length = 2 := by rw [hw]; unfold ar; rw [if_pos h5]
  rw [ag_iff D0.1.wf hu.1.wf D0.1.numb hu.1.numb D0.2 (by decide) (by rw [h5]; decide)]
  have hz := hu.1.lab
  obtain ⟨n, ks⟩ := u
  simp only [St, kids_mk] at *
  rw [labT, Bool.and_eq_true] at hz
  have hz1 := hz.1
  unfold labZ at hz1
  rw [Gq] at hz1
  have hp := Md.1 hu.2
  match ks, hk with
  | [a, b], _ =>
    have l0 := hz1 0 (by simp)
    have l1 := hz1 1 (by simp)
    have p0 := (hp a.root (by rw [K6, ndss, Gx]; simp)).2
    have p1 := (hp b.root (by rw [K6, ndss, ndss, Gx b]; simp)).2
    unfold labK at l0 l1
    simp only [List.getD_cons_zero, List.getD_cons_succ] at l0 l1
    rw [show (a.root.kind == 9) = false by simp [p0]] at l0
    rw [show (b.root.kind == 9) = false by simp [p1]] at l1
    have r5 : isRow3 n = false := by unfold isRow3; simp [h5]
    rw [r5] at l0 l1
    simp [h5] at l0 l1
    refine ⟨?_, ?_⟩
    · unfold alikeX labs
      simp only [St, kids_mk, dynFT, n5, dynT, List.map_cons, List.map_nil, h5, l0, l1]
      rfl
    · intro j hj
      have : j = 0 ∨ j = 1 := by simp only [dynFT, kids_mk, List.length_cons, List.length_nil] at hj; omega
      rcases this with rfl | rfl
      · exact ag_dyn1
      · exact ag_dyn1
theorem ag_comm {x y : Rose Node} (hx : PT x) (hy : PT y) : agX false x y = agX false y x := by
  unfold agX
  exact ov_comm (B4 hx.1.wf) (B4 hy.1.wf)
theorem ag_arr {t u : Rose Node} (ht : PT t) (hu : PT u) (h : agX false t u = true) (h1 : (arrR t).root.kind = 5) (h2 : (arrR u).root.kind = 5) : agX false (arrR t) (arrR u) = true := by
  unfold arrR at *
  cases t0 : (t.root.kind == 0) with
  | true =>
    rw [t0, cond_true] at h1
    rw [cond_true]
    cases u0 : (u.root.kind == 0) with
    | true => exact Of D0 rfl
    | false => rw [u0, cond_false] at h2; exact Of hu h2
  | false =>
    rw [t0, cond_false] at h1
    rw [cond_false]
    cases u0 : (u.root.kind == 0) with
    | true => rw [cond_true, ag_comm ht D0]; exact Of ht h1
    | false => exact h
theorem okV_relab : ∀ (x : Rose VNode) (d : Nat), okV (relabT x) d = okV x d
  | mk n ks, d => by
    rw [relabT, okV, okV]
    rfl
theorem wf_relab : ∀ {x : Rose VNode}, wf arV x → wf arV (relabT x)
  | mk n ks, h => h
theorem okV_uses {x : Rose VNode} {d : Nat} (h : okV x d = true) : usesB x.root = true := by
  obtain ⟨n, ks⟩ := x
  rw [okV] at h
  simp only [Bool.and_eq_true] at h
  exact h.2.1
theorem okV_deep {x : Rose VNode} {d : Nat} (h : okV x d = true) : d ≤ 100 := by
  obtain ⟨n, ks⟩ := x
  rw [okV] at h
  simp only [Bool.and_eq_true, decide_eq_true_eq] at h
  exact h.1
theorem uses_wrap {n : VNode} (h : usesB n = true) (h7 : n.kind = 7) : wrapB n = true := by
  unfold usesB at h
  rw [h7] at h
  simp only [show ((7 : Int) == 0) = false from rfl, show ((7 : Int) == 1) = false from rfl, show ((7 : Int) == 2) = false from rfl, show ((7 : Int) == 3) = false from rfl, show ((7 : Int) == 4) = false from rfl, show ((7 : Int) == 5) = false from rfl,
    show ((7 : Int) == 6) = false from rfl, show ((7 : Int) == 7) = true from rfl, cond_true, cond_false, Bool.and_eq_true] at h
  exact h.2.2.2
theorem wrap_arrow {n : VNode} (h : wrapB n = true) : arrowB n.t = true ∧ arrowB n.u = true := by
  unfold wrapB at h
  simp only [Bool.and_eq_true] at h
  exact ⟨h.1, h.2.1⟩
theorem Ab {n : VNode} (h : isFunB n = true) : n.kind = 6 ∨ n.kind = 7 := by
  unfold isFunB at h
  simpa using h
theorem tree_nds {t : Rose Node} (h : PT t) : treeAt ar (nds t) 0 = t := E6 h.1
theorem wrapT_ok {lab : Int} {x : Rose VNode} {t u : Rose Node} {d : Nat} (hl : 0 ≤ lab) (hw : wf arV x) (hx : okV x d = true) (hf : isFunB x.root = true) (ht : PT t) (hu : PT u) (h1 : t.root.kind = 5) (h2 : u.root.kind = 5) (ha : agX false t u = true)
    (hs : same3 (nds t) (nds u) = false) : wf arV (wrapT lab x t u) ∧ okV (wrapT lab x t u) d = true := by
  have nt := pt_norm ht
  have nu := pt_norm hu
  have hwr : wrapB ⟨7, x.root.label, [], lab, 0, (nds t).map norm, (nds u).map norm⟩ = true := by
    unfold wrapB
    simp only
    rw [← nds_normX, ← nds_normX, arrow_pt nt (by rw [Nr, Pe]; exact h1), arrow_pt nu (by rw [Nr, Pe]; exact h2), tree_nds nt, tree_nds nu, ag_norm, ha, nds_normX, nds_normX, Oj, Oi, hs]
    rfl
  have hlb : leB 0 lab = true := by rw [Sa]; exact hl
  have hu7 : usesB ⟨7, x.root.label, [], lab, 0, (nds t).map norm, (nds u).map norm⟩ = true := by
    unfold usesB
    simp only [show ((7 : Int) == 0) = false from rfl, show ((7 : Int) == 1) = false from rfl, show ((7 : Int) == 2) = false from rfl, show ((7 : Int) == 3) = false from rfl, show ((7 : Int) == 4) = false from rfl, show ((7 : Int) == 5) = false from rfl,
      show ((7 : Int) == 6) = false from rfl, show ((7 : Int) == 7) = true from rfl, cond_true, cond_false, hwr, hlb]
    rfl
  refine ⟨⟨rfl, wf_relab hw, trivial⟩, ?_⟩
  unfold wrapT
  rw [okV, hu7, okVs, okVs, okV_relab]
  have hd := okV_deep hx
  rw [show decide (d ≤ 100) = true by rw [decide_eq_true_eq]; exact hd]
  have hmo : moreV ⟨7, x.root.label, [], lab, 0, (nds t).map norm, (nds u).map norm⟩ = 0 := rfl
  rw [hmo, Nat.add_zero, hx]
  have hk : okKids ⟨7, x.root.label, [], lab, 0, (nds t).map norm, (nds u).map norm⟩ [relabT x] = true := by
    unfold okKids
    rw [Gq]
    intro j hj
    have : j = 0 := by simpa using hj
    subst this
    rw [D5 (by simp)]
    obtain ⟨n, ks⟩ := x
    simp only [List.getElem_cons_zero, relabT, St, relab, kidB, wrapK]
    rcases Ab hf with h | h <;> simp only [St] at h <;> rw [h] <;> rfl
  rw [hk]
  rfl
theorem fits_fun {x : Rose VNode} {t : Rose Node} {d : Nat} (ht : PT t) (hx : okV x d = true) (hf : isFunB x.root = true) (h : fitsR x t = true) : (arrR t).root.kind = 5 ∧ (x.root.kind = 7 → same3 x.root.u (nds (arrR t)) = true) := by
  have hus := okV_uses hx
  obtain ⟨n, ks⟩ := x
  simp only [St] at *
  rw [fitsR] at h
  unfold arrR
  rcases Ab hf with h6 | h7
  · rw [show (n.kind == 6) = true by simp [h6], cond_true] at h
    cases t0 : (t.root.kind == 0) with
    | true => exact ⟨rfl, fun h7 => by omega⟩
    | false => rw [t0, Bool.false_or, beq_iff_eq] at h; exact ⟨h, fun h7 => by omega⟩
  · have hu := (wrap_arrow (uses_wrap hus h7)).2
    rw [show (n.kind == 6) = false by simp [h7], cond_false, show (n.kind == 7) = true by simp [h7], cond_true, Bool.or_eq_true, Bool.and_eq_true] at h
    obtain ⟨y, hy, hyr⟩ := N0 (Ns.1 hu).1
    rw [hy] at hu h
    have h5 := root_arrow hu
    cases t0 : (t.root.kind == 0) with
    | true =>
      rcases h with h | h
      · have := E8 h
        rw [beq_iff_eq] at t0
        omega
      · exact ⟨rfl, fun _ => by rw [hy]; exact h.2⟩
    | false =>
      rcases h with h | h
      · have := E8 h
        exact ⟨by rw [cond_false, ← this]; exact h5, fun _ => by rw [hy]; exact h⟩
      · rw [t0] at h; cases h.1
theorem fun_fits {lab : Int} {x y : Rose VNode} {t u : Rose Node} {d : Nat} (hl : 0 ≤ lab) (hw : wf arV x) (hx : okV x d = true) (hf : isFunB x.root = true) (ht : PT t) (hu : PT u) (ha : agX false t u = true) (h : fitsR x t = true) (hc : funR lab x t u = some y) :
    fitsR y u = true ∧ wf arV y ∧ okV y d = true ∧ y.root.label = x.root.label := by
  obtain ⟨f1, f2⟩ := fits_fun ht hx hf h
  unfold funR at hc
  cases c1 : ((arrR u).root.kind == 5) with
  | false => rw [c1, cond_false] at hc; cases hc
  | true =>
    rw [c1, cond_true] at hc
    rw [beq_iff_eq] at c1
    have hfu : ∀ {n : VNode} {ks : List (Rose VNode)}, n.kind = 7 → same3 n.u (nds (arrR u)) = true → fitsR (mk n ks) u = true := by
      intro n ks h7 hs
      rw [fitsR, show (n.kind == 6) = false by simp [h7], cond_false, show (n.kind == 7) = true by simp [h7], cond_true]
      unfold arrR at hs
      cases u0 : (u.root.kind == 0) with
      | true => rw [u0, cond_true, Iv] at hs; rw [hs, Bool.true_and, Bool.or_true]
      | false => rw [u0, cond_false] at hs; rw [hs, Bool.true_or]
    cases c2 : same3 (nds (arrR t)) (nds (arrR u)) with
    | true =>
      rw [c2, cond_true] at hc
      injection hc with hc
      subst hc
      refine ⟨?_, hw, hx, rfl⟩
      obtain ⟨n, ks⟩ := x
      simp only [St] at *
      rcases Ab hf with h6 | h7
      · rw [fitsR, show (n.kind == 6) = true by simp [h6], cond_true]
        unfold arrR at c1
        cases u0 : (u.root.kind == 0) with
        | true => rfl
        | false => rw [u0, cond_false] at c1; simp [c1]
      · exact hfu h7 (same3_trans (f2 h7) c2)
    | false =>
      rw [c2, cond_false] at hc
      injection hc with hc
      subst hc
      obtain ⟨g1, g2⟩ := wrapT_ok hl hw hx hf (arrR_pt ht) (arrR_pt hu) f1 c1 (ag_arr ht hu ha f1 c1) c2
      refine ⟨?_, g1, g2, rfl⟩
      unfold wrapT
      refine hfu rfl ?_
      simp only
      rw [Oj]
      exact L2 _
end Go.Am.Ty
set_option linter.unusedSimpArgs false
set_option linter.unusedVariables false
set_option maxHeartbeats 2000000
namespace Go.Am.Ty
open Go.Proofs Go.Rose Go.Rose.Rose
open Enc (enc dec)
theorem Is {n : VNode} (h : isFunB n = false) : (n.kind == 6) = false ∧ (n.kind == 7) = false := by
  unfold isFunB at h
  rwa [Bool.or_eq_false_iff] at h
theorem Tt {lab : Int} {n : VNode} {ks : List (Rose VNode)} {t u : Rose Node} {y : Rose VNode} (hs : same3 (nds t) (nds u) = false) (hf : isFunB n = false) (h45 : (n.kind == 4 || n.kind == 5) = true) :
    castR lab (mk n ks) t u = some y ↔ ∃ a b ys, partsR n ks t = some a ∧ partsR n ks u = some b ∧ y = mk n ys ∧ ys.length = ks.length ∧ ∀ j (h : j < ys.length), castR lab (ks.getD j dv) (a.getD j dynT) (b.getD j dynT) = some ys[j] := by
  rw [castR, hs, cond_false, hf, cond_false, h45, cond_true]
  cases ha : partsR n ks t with
  | none => simp
  | some a =>
    cases hb : partsR n ks u with
    | none => simp
    | some b =>
      simp only [Option.map_eq_some_iff, Option.some.injEq]
      constructor
      · rintro ⟨ys, h1, rfl⟩
        obtain ⟨g1, g2⟩ := Sq.1 h1
        exact ⟨a, b, ys, rfl, rfl, rfl, g1, g2⟩
      · rintro ⟨a', b', ys, rfl, rfl, rfl, g1, g2⟩
        exact ⟨ys, Sq.2 ⟨g1, g2⟩, rfl⟩
theorem Sd {n : VNode} {ks : List (Rose VNode)} {t : Rose Node} (hf : isFunB n = false) (h45 : (n.kind == 4 || n.kind == 5) = true) :
    fitsR (mk n ks) t = true ↔ ∃ a, partsR n ks t = some a ∧ ∀ j, j < ks.length → fitsR (ks.getD j dv) (a.getD j dynT) = true := by
  obtain ⟨h6, h7⟩ := Is hf
  rw [fitsR, h6, cond_false, h7, cond_false, h45, cond_true]
  cases ha : partsR n ks t with
  | none => simp
  | some a =>
    simp only [Option.some.injEq]
    rw [Fl, Gq]
    constructor
    · exact fun h => ⟨a, rfl, h⟩
    · rintro ⟨a', rfl, h⟩
      exact h
theorem Ed {n : VNode} {ks : List (Rose VNode)} {t : Rose Node} (hf : isFunB n = false) (h45 : (n.kind == 4 || n.kind == 5) = false) : fitsR (mk n ks) t = (t.root.kind == 0 || isBaseB n t.root.kind) := by
  obtain ⟨h6, h7⟩ := Is hf
  rw [fitsR, h6, cond_false, h7, cond_false, h45, cond_false]
theorem Pr {lab : Int} {n : VNode} {ks : List (Rose VNode)} {t u : Rose Node} (hs : same3 (nds t) (nds u) = false) (hf : isFunB n = false) (h45 : (n.kind == 4 || n.kind == 5) = false) :
    castR lab (mk n ks) t u = cond (!(u.root.kind == 0) && !isBaseB n u.root.kind) none (some (mk n ks)) := by
  rw [castR, hs, cond_false, hf, cond_false, h45, cond_false]
theorem M1 {lab : Int} {x : Rose VNode} {t u : Rose Node} (hs : same3 (nds t) (nds u) = true) : castR lab x t u = some x := by
  obtain ⟨n, ks⟩ := x
  rw [castR, hs, cond_true]
theorem Tu {lab : Int} {n : VNode} {ks : List (Rose VNode)} {t u : Rose Node} (hs : same3 (nds t) (nds u) = false) (hf : isFunB n = true) : castR lab (mk n ks) t u = funR lab (mk n ks) t u := by
  rw [castR, hs, cond_false, hf, cond_true]
theorem Aj {t : Rose Node} : ∀ {ks ys : List (Rose VNode)}, ys.length = ks.length → (∀ j (h : j < ys.length) (h2 : j < ks.length), ys[j].root.label = ks[j].root.label) → fieldsR t ys = fieldsR t ks
  | [], ys, h, _ => by rw [List.eq_nil_of_length_eq_zero h]
  | k :: ks, [], h, _ => by simp at h
  | k :: ks, y :: ys, h, hl => by
    have h0 := hl 0 (by simp) (by simp)
    simp only [List.getElem_cons_zero] at h0
    rw [fieldsR, fieldsR, h0, Aj (ks := ks) (ys := ys) (by simpa using h) (fun j h1 h2 => hl (j + 1) (by simpa using h1) (by simpa using h2))]
theorem parts_congr {n : VNode} {ks ys : List (Rose VNode)} {t : Rose Node} (h : ys.length = ks.length) (hl : ∀ j (h : j < ys.length) (h2 : j < ks.length), ys[j].root.label = ks[j].root.label) : partsR n ys t = partsR n ks t := by
  unfold partsR
  rw [h, Aj h hl]
theorem Eq {n : VNode} {ks ys : List (Rose VNode)} (h7 : (n.kind == 7) = false) (h : ys.length = ks.length) (hl : ∀ j (h : j < ys.length) (h2 : j < ks.length), ys[j].root.label = ks[j].root.label) : okKids n ys = okKids n ks := by
  unfold okKids
  rw [h, Bool.eq_iff_iff, Gq, Gq]
  refine forall_congr' fun j => imp_congr_right fun hj => ?_
  have e1 : (kidR ys j).label = (kidR ks j).label := by rw [D5 (by omega), D5 hj]; exact hl j (by omega) hj
  have e2 : (kidR ys (j - 1)).label = (kidR ks (j - 1)).label := by rw [D5 (by omega), D5 (by omega)]; exact hl (j - 1) (by omega) (by omega)
  unfold kidB wrapK
  rw [e1, e2, h7]
  simp
theorem okV_kid {n : VNode} {ks : List (Rose VNode)} {d : Nat} (h : okV (mk n ks) d = true) {j : Nat} (hj : j < ks.length) : okV ks[j] (d + moreV n) = true := by
  rw [okV] at h
  simp only [Bool.and_eq_true] at h
  exact C6.1 h.2.2.2 j hj
theorem Su {l : List (Rose Node)} (h : ∀ y ∈ l, PT y) (j : Nat) : PT (l.getD j dynT) := by
  by_cases hj : j < l.length
  · rw [List.getD_eq_getElem?_getD, List.getElem?_eq_getElem hj]
    exact h _ (List.getElem_mem hj)
  · rw [List.getD_eq_getElem?_getD, List.getElem?_eq_none (by omega)]
    exact pt_dyn
theorem N1 {α : Type} {l : List α} {j : Nat} {d : α} (h : j < l.length) : l.getD j d = l[j] := by simp [h]
theorem Nw {n : VNode} {ks : List (Rose VNode)} {j : Nat} (h : j < ks.length) : (nds ks[j]).length < (nds (mk n ks)).length := Ru (x := mk n ks) h
theorem Lw {lab : Int} (hl : 0 ≤ lab) : ∀ (N : Nat) {x y : Rose VNode} {t u : Rose Node} {d : Nat}, (nds x).length ≤ N → wf arV x → okV x d = true → PT t → PT u → agX false t u = true → fitsR x t = true → castR lab x t u = some y →
    fitsR y u = true ∧ wf arV y ∧ okV y d = true ∧ y.root.label = x.root.label
  | 0, x, y, t, u, d, hN, _, _, _, _, _, _, _ => by have := K8 x; omega
  | N + 1, mk n ks, y, t, u, d, hN, hw, hx, ht, hu, ha, hfit, hc => by
    cases hs : same3 (nds t) (nds u) with
    | true =>
      rw [M1 hs] at hc
      injection hc with hc
      subst hc
      exact ⟨by rw [← fits_same ht.1.wf hu.1.wf hs]; exact hfit, hw, hx, rfl⟩
    | false =>
      cases hf : isFunB n with
      | true =>
        rw [Tu hs hf] at hc
        exact fun_fits hl hw hx hf ht hu ha hfit hc
      | false =>
        cases h45 : (n.kind == 4 || n.kind == 5) with
        | false =>
          rw [Pr hs hf h45] at hc
          cases hb : (!(u.root.kind == 0) && !isBaseB n u.root.kind) with
          | true => rw [hb, cond_true] at hc; cases hc
          | false =>
            rw [hb, cond_false] at hc
            injection hc with hc
            subst hc
            refine ⟨?_, hw, hx, rfl⟩
            rw [Ed hf h45]
            cases u0 : (u.root.kind == 0) with
            | true => rfl
            | false => rw [u0] at hb; simpa using hb
        | true =>
          obtain ⟨a, b, ys, hpa, hpb, rfl, hyl, hyc⟩ := (Tt hs hf h45).1 hc
          obtain ⟨a', hpa', hfk⟩ := (Sd hf h45).1 hfit
          rw [hpa] at hpa'
          injection hpa' with hpa'
          subst hpa'
          have hk5 : n.kind = 5 → ks.length = 1 := fun h => kid1 hw h
          have hag := Rk ht hu hk5 ha hpa hpb
          have hpt := Bo ht hpa
          have hpu := Bo hu hpb
          have hmo : moreV n = 1 := by unfold moreV; rw [(Is hf).2]; rfl
          have key : ∀ j (h : j < ys.length) (h2 : j < ks.length), fitsR ys[j] (b.getD j dynT) = true ∧ wf arV ys[j] ∧ okV ys[j] (d + moreV n) = true ∧ ys[j].root.label = ks[j].root.label := by
            intro j h h2
            have h3 := hyc j h
            have h4 := hfk j h2
            rw [N1 h2] at h3 h4
            exact Lw hl N (by have := Nw (n := n) h2; omega) (Pt hw.2 _ (List.getElem_mem h2)) (okV_kid hx h2) (Su hpt j) (Su hpu j) (hag j h2) h4 h3
          have hlab : ∀ j (h : j < ys.length) (h2 : j < ks.length), ys[j].root.label = ks[j].root.label := fun j h h2 => (key j h h2).2.2.2
          refine ⟨?_, ?_, ?_, rfl⟩
          · rw [Sd hf h45]
            refine ⟨b, by rw [parts_congr hyl hlab]; exact hpb, fun j hj => ?_⟩
            rw [N1 hj]
            exact (key j hj (by omega)).1
          · refine ⟨by rw [hyl]; exact hw.1, ?_⟩
            have : ∀ (zs : List (Rose VNode)), (∀ z ∈ zs, wf arV z) → wfs arV zs := by
              intro zs
              induction zs with
              | nil => exact fun _ => trivial
              | cons z zs ih => exact fun h => ⟨h z (by simp), ih fun w hw => h w (by simp [hw])⟩
            refine this ys fun z hz => ?_
            obtain ⟨j, hj, rfl⟩ := List.getElem_of_mem hz
            exact (key j hj (by omega)).2.1
          · rw [okV] at hx ⊢
            simp only [Bool.and_eq_true] at hx ⊢
            refine ⟨hx.1, hx.2.1, by rw [Eq (Is hf).2 hyl hlab]; exact hx.2.2.1, C6.2 fun j hj => (key j hj (by omega)).2.2.1⟩
theorem cast_kids {lab : Int} {n : VNode} {ks : List (Rose VNode)} {t u : Rose Node} {a b : List (Rose Node)} (hs : same3 (nds t) (nds u) = false) (hf : isFunB n = false) (h45 : (n.kind == 4 || n.kind == 5) = true) (ha : partsR n ks t = some a) (hb : partsR n ks u = some b)
    (h : ∀ j (h : j < ks.length), ∃ y, castR lab ks[j] (a.getD j dynT) (b.getD j dynT) = some y) : ∃ ys, castR lab (mk n ks) t u = some (mk n ys) := by
  have : ∀ m, m ≤ ks.length → ∃ ys, seqO (fun j => castR lab (ks.getD j dv) (a.getD j dynT) (b.getD j dynT)) m = some ys := by
    intro m
    induction m with
    | zero => exact fun _ => ⟨[], rfl⟩
    | succ m ih =>
      intro hm
      obtain ⟨ys, hys⟩ := ih (by omega)
      obtain ⟨y, hy⟩ := h m (by omega)
      refine ⟨ys ++ [y], ?_⟩
      have hy2 : castR lab (ks.getD m dv) (a.getD m dynT) (b.getD m dynT) = some y := by rw [N1 (show m < ks.length by omega)]; exact hy
      rw [seqO, hys, hy2]
  obtain ⟨ys, hys⟩ := this ks.length (Nat.le_refl _)
  refine ⟨ys, ?_⟩
  rw [castR, hs, cond_false, hf, cond_false, h45, cond_true, ha, hb]
  simp only
  rw [F4, hys]
  rfl
theorem F3 {lab : Int} : ∀ (N : Nat) {x : Rose VNode} {t u : Rose Node} {d : Nat}, (nds x).length ≤ N → wf arV x → okV x d = true → PT t → PT u → agX true t u = true → fitsR x t = true → ∃ y, castR lab x t u = some y
  | 0, x, t, u, d, hN, _, _, _, _, _, _ => by have := K8 x; omega
  | N + 1, mk n ks, t, u, d, hN, hw, hx, ht, hu, ha, hfit => by
    cases hs : same3 (nds t) (nds u) with
    | true => exact ⟨_, M1 hs⟩
    | false =>
      cases hf : isFunB n with
      | true =>
        rw [Tu hs hf]
        obtain ⟨f1, _⟩ := fits_fun ht hx hf hfit
        have c1 : (arrR u).root.kind = 5 := by
          unfold arrR at *
          cases u0 : (u.root.kind == 0) with
          | true => rfl
          | false =>
            rw [beq_eq_false_iff_ne] at u0
            have t0 : t.root.kind ≠ 0 := fun t0 => u0 (Ly ha t0)
            rw [show (t.root.kind == 0) = false by simp [t0], cond_false] at f1
            rw [cond_false, ← (Tx ht hu t0 u0 ha).1]
            exact f1
        unfold funR
        rw [show ((arrR u).root.kind == 5) = true by simp [c1], cond_true]
        cases same3 (nds (arrR t)) (nds (arrR u)) with
        | true => exact ⟨_, rfl⟩
        | false => exact ⟨_, rfl⟩
      | false =>
        cases h45 : (n.kind == 4 || n.kind == 5) with
        | false =>
          rw [Pr hs hf h45]
          rw [Ed hf h45] at hfit
          have hb : (!(u.root.kind == 0) && !isBaseB n u.root.kind) = false := by
            cases u0 : (u.root.kind == 0) with
            | true => rfl
            | false =>
              rw [beq_eq_false_iff_ne] at u0
              have t0 : t.root.kind ≠ 0 := fun t0 => u0 (Ly ha t0)
              rw [show (t.root.kind == 0) = false by simp [t0], Bool.false_or] at hfit
              rw [← (Tx ht hu t0 u0 ha).1, hfit]
              rfl
          rw [hb, cond_false]
          exact ⟨_, rfl⟩
        | true =>
          obtain ⟨a, hpa, hfk⟩ := (Sd hf h45).1 hfit
          obtain ⟨b, hpb⟩ := Fb ht hu ha hpa
          have hk5 : n.kind = 5 → ks.length = 1 := fun h => kid1 hw h
          have hag := Rk ht hu hk5 ha hpa hpb
          have hpt := Bo ht hpa
          have hpu := Bo hu hpb
          obtain ⟨ys, hys⟩ := cast_kids (lab := lab) hs hf h45 hpa hpb fun j h2 => by
            have h4 := hfk j h2
            rw [N1 h2] at h4
            exact F3 N (by have := Nw (n := n) h2; omega) (Pt hw.2 _ (List.getElem_mem h2)) (okV_kid hx h2) (Su hpt j) (Su hpu j) (hag j h2) h4
          exact ⟨_, hys⟩
theorem same_dyn {t : Rose Node} (h0 : t.root.kind = 0) (hw : wf ar t) (hn : t.root.name = []) : same3 (nds dynT) (nds t) = true := by
  obtain ⟨n, ks⟩ := t
  simp only [St] at *
  have : ks = [] := by
    have := hw.1
    rw [numb_ar0 h0] at this
    exact List.eq_nil_of_length_eq_zero this
  subst this
  unfold same3
  rw [Th, K6, ndss]
  simp only [List.map_cons, List.map_nil]
  unfold norm
  obtain ⟨k, s, m⟩ := n
  simp only at h0 hn
  subst h0
  subst hn
  rfl
theorem Eo {t : Rose Node} (h : same3 (nds dynT) (nds t) = true) : t.root.kind = 0 := (E8 h).symm
theorem dyn_parts {n : VNode} {ks : List (Rose VNode)} : partsR n ks dynT = some (List.replicate ks.length dynT) := rfl
theorem Ib {lab : Int} : ∀ (N : Nat) {x y : Rose VNode} {t u : Rose Node}, (nds x).length ≤ N → wf arV x → PT t → PT u → agX true t u = true → castR lab x dynT t = some y → ∃ z, castR lab x dynT u = some z
  | 0, x, y, t, u, hN, _, _, _, _, _ => by have := K8 x; omega
  | N + 1, mk n ks, y, t, u, hN, hw, ht, hu, ha, hc => by
    by_cases u0 : u.root.kind = 0
    · exact ⟨_, M1 (same_dyn u0 hu.1.wf hu.1.name)⟩
    have t0 : t.root.kind ≠ 0 := fun t0 => u0 (Ly ha t0)
    have hst : same3 (nds dynT) (nds t) = false := by rw [Bool.eq_false_iff]; exact fun h => t0 (Eo h)
    have hsu : same3 (nds dynT) (nds u) = false := by rw [Bool.eq_false_iff]; exact fun h => u0 (Eo h)
    obtain ⟨g1, g2, g3, g4⟩ := Tx ht hu t0 u0 ha
    cases hf : isFunB n with
    | true =>
      rw [Tu hst hf] at hc
      rw [Tu hsu hf]
      unfold funR at hc ⊢
      unfold arrR at hc ⊢
      rw [show (t.root.kind == 0) = false by simp [t0], cond_false] at hc
      rw [show (u.root.kind == 0) = false by simp [u0], cond_false, ← g1]
      cases c1 : (t.root.kind == 5) with
      | false => rw [c1, cond_false] at hc; cases hc
      | true =>
        rw [cond_true]
        cases same3 (nds (cond (dynT.root.kind == 0) dynFT dynT)) (nds u) with
        | true => exact ⟨_, rfl⟩
        | false => exact ⟨_, rfl⟩
    | false =>
      cases h45 : (n.kind == 4 || n.kind == 5) with
      | false =>
        rw [Pr hst hf h45] at hc
        rw [Pr hsu hf h45]
        rw [show (t.root.kind == 0) = false by simp [t0]] at hc
        rw [show (u.root.kind == 0) = false by simp [u0], ← g1]
        cases hb : isBaseB n t.root.kind with
        | true => exact ⟨_, rfl⟩
        | false => rw [hb] at hc; cases hc
      | true =>
        obtain ⟨a, b, ys, hpa, hpb, rfl, hyl, hyc⟩ := (Tt hst hf h45).1 hc
        obtain ⟨b', hpb'⟩ := Fb ht hu ha hpb
        have hk5 : n.kind = 5 → ks.length = 1 := fun h => kid1 hw h
        have hag := Rk ht hu hk5 ha hpb hpb'
        have hpt := Bo ht hpb
        have hpu := Bo hu hpb'
        have ha0 : ∀ j, j < ks.length → a.getD j dynT = dynT := by
          intro j hj
          rw [dyn_parts] at hpa
          injection hpa with hpa
          rw [← hpa]
          simp [hj]
        obtain ⟨zs, hzs⟩ := cast_kids (lab := lab) hsu hf h45 hpa hpb' fun j h2 => by
          have h3 := hyc j (by omega)
          rw [N1 h2, ha0 j h2] at h3
          rw [ha0 j h2]
          exact Ib N (by have := Nw (n := n) h2; omega) (Pt hw.2 _ (List.getElem_mem h2)) (Su hpt j) (Su hpu j) (hag j h2) h3
        exact ⟨_, hzs⟩
def NoFun (x : Rose VNode) : Prop := ∀ m ∈ nds x, m.kind ≠ 6 ∧ m.kind ≠ 7
theorem T5 {n : VNode} {ks : List (Rose VNode)} (h : NoFun (mk n ks)) : isFunB n = false := by
  have := h n (by rw [K6]; simp)
  unfold isFunB
  simp [this.1,this.2]
theorem D3 {n : VNode} {ks : List (Rose VNode)} (h : NoFun (mk n ks)) {j : Nat} (hj : j < ks.length) : NoFun ks[j] := fun m hm => h m (C8 (x := mk n ks) hj m hm)
theorem Pg {lab : Int} : ∀ (N : Nat) {x y : Rose VNode} {t u : Rose Node}, (nds x).length ≤ N → NoFun x → castR lab x t u = some y → y = x
  | 0, x, y, t, u, hN, _, _ => by have := K8 x; omega
  | N + 1, mk n ks, y, t, u, hN, hx, hc => by
    cases hs : same3 (nds t) (nds u) with
    | true => rw [M1 hs] at hc; injection hc with hc; exact hc.symm
    | false =>
      have hf := T5 hx
      cases h45 : (n.kind == 4 || n.kind == 5) with
      | false =>
        rw [Pr hs hf h45] at hc
        cases hb : (!(u.root.kind == 0) && !isBaseB n u.root.kind) with
        | true => rw [hb, cond_true] at hc; cases hc
        | false => rw [hb, cond_false] at hc; injection hc with hc; exact hc.symm
      | true =>
        obtain ⟨a, b, ys, hpa, hpb, rfl, hyl, hyc⟩ := (Tt hs hf h45).1 hc
        congr 1
        refine List.ext_getElem hyl fun j h1 h2 => ?_
        have := hyc j h1
        rw [N1 h2] at this
        exact Pg N (by have := Nw (n := n) h2; omega) (D3 hx h2) this
theorem Lx {lab : Int} : ∀ (N : Nat) {x : Rose VNode} {t u : Rose Node}, (nds x).length ≤ N → NoFun x → fitsR x t = true → fitsR x u = true → castR lab x t u = some x
  | 0, x, t, u, hN, _, _, _ => by have := K8 x; omega
  | N + 1, mk n ks, t, u, hN, hx, h1, h2 => by
    cases hs : same3 (nds t) (nds u) with
    | true => exact M1 hs
    | false =>
      have hf := T5 hx
      cases h45 : (n.kind == 4 || n.kind == 5) with
      | false =>
        rw [Pr hs hf h45]
        rw [Ed hf h45] at h2
        have hb : (!(u.root.kind == 0) && !isBaseB n u.root.kind) = false := by
          rw [Bool.or_eq_true] at h2
          rcases h2 with h2 | h2 <;> rw [h2] <;> simp
        rw [hb, cond_false]
      | true =>
        obtain ⟨a, hpa, hfa⟩ := (Sd hf h45).1 h1
        obtain ⟨b, hpb, hfb⟩ := (Sd hf h45).1 h2
        refine (Tt hs hf h45).2 ⟨a, b, ks, hpa, hpb, rfl, rfl, fun j hj => ?_⟩
        have g1 := hfa j hj
        have g2 := hfb j hj
        rw [N1 hj] at g1 g2 ⊢
        exact Lx N (by have := Nw (n := n) hj; omega) (D3 hx hj) g1 g2
theorem Fk : ∀ (N : Nat) {x : Rose VNode} {t u : Rose Node}, (nds x).length ≤ N → NoFun x → wf arV x → PT t → PT u → agX true t u = true → fitsR x t = true → fitsR x u = true
  | 0, x, t, u, hN, _, _, _, _, _, _ => by have := K8 x; omega
  | N + 1, mk n ks, t, u, hN, hx, hw, ht, hu, ha, hfit => by
    have hf := T5 hx
    cases h45 : (n.kind == 4 || n.kind == 5) with
    | false =>
      rw [Ed hf h45] at *
      cases u0 : (u.root.kind == 0) with
      | true => rfl
      | false =>
        rw [beq_eq_false_iff_ne] at u0
        have t0 : t.root.kind ≠ 0 := fun t0 => u0 (Ly ha t0)
        rw [show (t.root.kind == 0) = false by simp [t0], Bool.false_or] at hfit
        rw [← (Tx ht hu t0 u0 ha).1, hfit]
        rfl
    | true =>
      obtain ⟨a, hpa, hfa⟩ := (Sd hf h45).1 hfit
      obtain ⟨b, hpb⟩ := Fb ht hu ha hpa
      have hk5 : n.kind = 5 → ks.length = 1 := fun h => kid1 hw h
      have hag := Rk ht hu hk5 ha hpa hpb
      refine (Sd hf h45).2 ⟨b, hpb, fun j hj => ?_⟩
      have g1 := hfa j hj
      rw [N1 hj] at g1 ⊢
      exact Fk N (by have := Nw (n := n) hj; omega) (D3 hx hj) (Pt hw.2 _ (List.getElem_mem hj)) (Su (Bo ht hpa) j) (Su (Bo hu hpb) j) (hag j hj) g1
theorem On : ∀ (N : Nat) {x : Rose VNode}, (nds x).length ≤ N → NoFun x → plainR x = x
  | 0, x, hN, _ => by have := K8 x; omega
  | N + 1, mk n ks, hN, hx => by
    rw [plainR, T5 hx, cond_false, H7]
    congr 1
    refine List.ext_getElem (by simp) fun j h1 h2 => ?_
    rw [List.getElem_map]
    exact On N (by have := Nw (n := n) h2; omega) (D3 hx h2)
theorem Oo : ∀ x : Rose VNode, (plainR x).root.label = x.root.label
  | mk n ks => by
    rw [plainR]
    cases isFunB n <;> rfl
theorem Om : ∀ (N : Nat) {x : Rose VNode}, (nds x).length ≤ N → plainR (plainR x) = plainR x
  | 0, x, hN => by have := K8 x; omega
  | N + 1, mk n ks, hN => by
    rw [plainR]
    cases hf : isFunB n with
    | true => rfl
    | false =>
      rw [cond_false, plainR, hf, cond_false, H7, H7, List.map_map]
      congr 1
      refine List.ext_getElem (by simp) fun j h1 h2 => ?_
      simp only [List.length_map] at h1 h2
      rw [List.getElem_map, List.getElem_map]
      exact Om N (by have := Nw (n := n) h2; omega)
theorem plain_ok : ∀ (N : Nat) {x : Rose VNode} {d : Nat}, (nds x).length ≤ N → wf arV x → okV x d = true → wf arV (plainR x) ∧ okV (plainR x) d = true
  | 0, x, d, hN, _, _ => by have := K8 x; omega
  | N + 1, mk n ks, d, hN, hw, hx => by
    have hd := okV_deep hx
    rw [plainR]
    cases hf : isFunB n with
    | true =>
      refine ⟨⟨rfl, trivial⟩, ?_⟩
      rw [cond_true, okV, show decide (d ≤ 100) = true by rw [decide_eq_true_eq]; exact hd]
      rfl
    | false =>
      rw [cond_false, H7]
      have key : ∀ j (h : j < ks.length), wf arV (plainR ks[j]) ∧ okV (plainR ks[j]) (d + moreV n) = true := fun j h =>
        plain_ok N (by have := Nw (n := n) h; omega) (Pt hw.2 _ (List.getElem_mem h)) (okV_kid hx h)
      have hlab : ∀ j (h : j < (ks.map plainR).length) (h2 : j < ks.length), (ks.map plainR)[j].root.label = ks[j].root.label := fun j h h2 => by rw [List.getElem_map]; exact Oo _
      refine ⟨⟨by rw [List.length_map]; exact hw.1, ?_⟩, ?_⟩
      · have : ∀ (zs : List (Rose VNode)), (∀ z ∈ zs, wf arV z) → wfs arV zs := by
          intro zs
          induction zs with
          | nil => exact fun _ => trivial
          | cons z zs ih => exact fun h => ⟨h z (by simp), ih fun w hw => h w (by simp [hw])⟩
        refine this _ fun z hz => ?_
        rw [List.mem_map] at hz
        obtain ⟨k, hk, rfl⟩ := hz
        obtain ⟨j, hj, rfl⟩ := List.getElem_of_mem hk
        exact (key j hj).1
      · rw [okV] at hx ⊢
        simp only [Bool.and_eq_true] at hx ⊢
        refine ⟨hx.1, hx.2.1, by rw [Eq (Is hf).2 (by rw [List.length_map]) hlab]; exact hx.2.2.1, C6.2 fun j hj => ?_⟩
        rw [List.getElem_map]
        exact (key j (by simpa using hj)).2
def bareN (n : VNode) : Prop := n.kind ≠ 7 ∧ (n.kind = 6 → n.num = 0)
theorem uses_fun {n : VNode} (h : usesB n = true) (h6 : n.kind = 6) : n.t = [] ∧ n.u = [] ∧ n.name = [] ∧ n.many = 0 := by
  unfold usesB typV at h
  rw [h6] at h
  simp only [show ((6 : Int) == 0) = false from rfl, show ((6 : Int) == 1) = false from rfl, show ((6 : Int) == 2) = false from rfl, show ((6 : Int) == 3) = false from rfl, show ((6 : Int) == 4) = false from rfl, show ((6 : Int) == 5) = false from rfl,
    show ((6 : Int) == 6) = true from rfl, cond_true, cond_false, Bool.and_eq_true, beq_iff_eq] at h
  exact ⟨List.eq_nil_of_length_eq_zero (by have := h.1.1; omega), List.eq_nil_of_length_eq_zero (by have := h.1.2; omega), h.2.1, h.2.2.2⟩
theorem plain_bare : ∀ (N : Nat) {x : Rose VNode} {d : Nat}, (nds x).length ≤ N → wf arV x → okV x d = true → (plainR x = x ↔ ∀ m ∈ nds x, bareN m)
  | 0, x, d, hN, _, _ => by have := K8 x; omega
  | N + 1, mk n ks, d, hN, hw, hx => by
    rw [plainR]
    cases hf : isFunB n with
    | true =>
      rw [cond_true]
      rcases Ab hf with h6 | h7
      · have hk : ks = [] := by
          have := hw.1
          unfold arV at this
          rw [if_neg (by omega), if_neg (by omega)] at this
          exact List.eq_nil_of_length_eq_zero this
        subst hk
        obtain ⟨u1, u2, u3, u4⟩ := uses_fun (okV_uses hx) h6
        simp only [St] at *
        rw [K6, ndss]
        constructor
        · intro h m hm
          rw [List.mem_singleton] at hm
          subst hm
          injection h with h _
          refine ⟨by omega, fun _ => ?_⟩
          rw [← h]
        · intro h
          have := (h n (by simp)).2 h6
          congr 1
          obtain ⟨a, b, c, e, f, g, i⟩ := n
          simp only at *
          subst h6 u1 u2 u3 u4 this
          rfl
      · constructor
        · intro h
          injection h with h _
          rw [← h] at h7
          cases h7
        · intro h
          exact absurd h7 (h n (by rw [K6]; simp)).1
    | false =>
      rw [cond_false, H7]
      have hn : bareN n := by
        obtain ⟨h6, h7⟩ := Is hf
        exact ⟨by simpa using h7, fun h => by rw [h] at h6; cases h6⟩
      have key : ∀ j (h : j < ks.length), plainR ks[j] = ks[j] ↔ ∀ m ∈ nds ks[j], bareN m := fun j h =>
        plain_bare N (by have := Nw (n := n) h; omega) (Pt hw.2 _ (List.getElem_mem h)) (okV_kid hx h)
      constructor
      · intro h m hm
        injection h with _ h
        rw [K6, List.mem_cons] at hm
        rcases hm with rfl | hm
        · exact hn
        · have : ∀ (zs : List (Rose VNode)), m ∈ ndss zs → ∃ j, ∃ hj : j < zs.length, m ∈ nds zs[j] := by
            intro zs
            induction zs with
            | nil => intro h; simp [ndss] at h
            | cons z zs ih =>
              intro h
              rw [ndss, List.mem_append] at h
              rcases h with h | h
              · exact ⟨0, by simp, h⟩
              · obtain ⟨j, hj, hm⟩ := ih h
                exact ⟨j + 1, by simpa using hj, hm⟩
          obtain ⟨j, hj, hm2⟩ := this ks hm
          refine (key j hj).1 ?_ m hm2
          have h2 : (ks.map plainR)[j]'(by simpa using hj) = ks[j] := by simp only [h]
          rwa [List.getElem_map] at h2
      · intro h
        congr 1
        refine List.ext_getElem (by simp) fun j h1 h2 => ?_
        rw [List.getElem_map]
        exact (key j h2).2 fun m hm => h m (C8 (x := mk n ks) h2 m hm)
theorem plain_cast {lab : Int} : ∀ (N : Nat) {x y : Rose VNode} {t u : Rose Node}, (nds x).length ≤ N → castR lab x t u = some y → plainR y = plainR x
  | 0, x, y, t, u, hN, _ => by have := K8 x; omega
  | N + 1, mk n ks, y, t, u, hN, hc => by
    cases hs : same3 (nds t) (nds u) with
    | true => rw [M1 hs] at hc; injection hc with hc; rw [hc]
    | false =>
      cases hf : isFunB n with
      | true =>
        rw [Tu hs hf] at hc
        unfold funR at hc
        cases c1 : ((arrR u).root.kind == 5) with
        | false => rw [c1, cond_false] at hc; cases hc
        | true =>
          rw [c1, cond_true] at hc
          cases c2 : same3 (nds (arrR t)) (nds (arrR u)) with
          | true => rw [c2, cond_true] at hc; injection hc with hc; rw [hc]
          | false =>
            rw [c2, cond_false] at hc
            injection hc with hc
            rw [← hc, wrapT, plainR, plainR, hf]
            rfl
      | false =>
        cases h45 : (n.kind == 4 || n.kind == 5) with
        | false =>
          rw [Pr hs hf h45] at hc
          cases hb : (!(u.root.kind == 0) && !isBaseB n u.root.kind) with
          | true => rw [hb, cond_true] at hc; cases hc
          | false => rw [hb, cond_false] at hc; injection hc with hc; rw [hc]
        | true =>
          obtain ⟨a, b, ys, hpa, hpb, rfl, hyl, hyc⟩ := (Tt hs hf h45).1 hc
          rw [plainR, plainR, hf, cond_false, cond_false, H7, H7]
          congr 1
          refine List.ext_getElem (by simp [hyl]) fun j h1 h2 => ?_
          simp only [List.length_map] at h1 h2
          rw [List.getElem_map, List.getElem_map]
          have := hyc j h1
          rw [N1 h2] at this
          exact plain_cast N (by have := Nw (n := n) h2; omega) this
theorem plain_pos (x : Rose VNode) : 0 < (nds (plainR x)).length := K8 _
end Go.Am.Ty
set_option linter.unusedSimpArgs false
set_option linter.unusedVariables false
set_option maxHeartbeats 2000000
namespace Go.Am.Ty
open Go.Proofs Go.Rose Go.Rose.Rose
open Enc (enc dec)
def oneV (a b : List VNode) : Bool := decide (a = b)
theorem D2 (a : List VNode) : oneV a a = true := by unfold oneV; simp
theorem oneV_same {a b : List VNode} (h : sameV a b = false) : oneV a b = false := by
  unfold oneV
  rw [decide_eq_false_iff_not]
  intro e
  subst e
  unfold sameV at h
  simp at h
def con_One19 : Con := con2 (fun (a b : Sl VNode) => InV a.l ∧ InV b.l) (fun a b => oneV a.l b.l)
noncomputable def ctx_One19 : Ctx := ⟨tab, lkC [(31, con_Same19), (22, con_One3)], 60, lkB [], [], false⟩
theorem Pp : ctx_One19.τ = tab := rfl
theorem Bs : ctx_One19.Γ = lkC [(31, con_Same19), (22, con_One3)] := rfl
theorem Br : ctx_One19.dp = 60 := rfl
theorem Bt : ctx_One19.Δ = lkB [] := rfl
theorem Dm : ctx_One19.wr = false := rfl
set_option maxRecDepth 100000 in
theorem Cf : Good Try.prog (37, con_One19) := by
  refine ⟨U0 Try.func37 (by kernel_rfl) rfl, ?_⟩
  have K : CtxOk Try.prog ctx_One19 := U4 Ki Ka (by
    intro p hp
    simp only [List.mem_cons, List.not_mem_nil, or_false] at hp
    rcases hp with rfl | rfl
    · exact O2
    · exact good_One3) (by simp)
  obtain ⟨c, hc⟩ : ∃ c, Try.f37.body = some c := ⟨_, rfl⟩
  refine U5 K Try.func37 hc [.tmp 4] rfl 42 rfl (fun cvs hpre => ?_)
  change con_One19.pre cvs at hpre
  unfold con_One19 at hpre
  obtain ⟨⟨a⟩, ⟨b⟩, rfl, hIa, hIb⟩ := Kj hpre
  have ⟨ha, hA⟩ : InV a := hIa
  have ⟨hb, hB⟩ : InV b := hIb
  have hIa' : InV a := hIa
  have hIb' : InV b := hIb
  clear hpre
  simp only [Try.f37, Option.some.injEq] at hc
  subst hc
  refine Kl 2 (of_decide_eq_true (by kernel_rfl)) ?_
  cases hs : sameV a b with
  | false =>
    have hr := oneV_same hs
    (sym =>
     simp [hs,hr,Ut,Uw,Uv,Uu,szV,Pp,Bs,Br,Bt,con_One19.eq_def,con_One3.eq_def,con_Same19.eq_def,Zb,Zc,Ze,Zf,Z9,Qc,Qd,Qe,Qf,Qn,Qo,Qp,Qq,Qs,Q1,Q2,Q4,Q8,Jf,Jj,Jk,Jl,Jw,J2,J3,J4,J5,J7,Xa,Xe,Xm,Xn,Xu,X2,X4,X5,X9,Wa,Wd,Wf,Wg,Wr,Ws,Wt,Wu,Wv,Ww,Wx,Wy,W4,W5,W8,W9,Yd,Yh,Yw,Y5,Y6,Y9,Va,Vb,Vc,Vd,Ve,Vh,Vm,Vo,Vr,Vs,V5,Uh,Uj,Uk,Ul,Ku]
     tactic =>
      try simp only [Uy] at *
      try simp only [nc2] at *
      try simp (maxSteps := 4000000) only [hs,hr,Ut,Uw,Uv,Uu,szV,U1]
      repeat' (first | with_reducible assumption | with_reducible refine And.intro ?_ ?_ | intro _ | omega | (rw [Ux]; omega))
      all_goals first
        | exact hIa'
        | exact hIb'
        | skip)
  | true =>
    have hsn : a.map normV = b.map normV := by unfold sameV at hs; rwa [beq_iff_eq] at hs
    have hlen : a.length = b.length := by have := congrArg List.length hsn; simpa using this
    (sym =>
     simp [hs,Ut,Uw,Uv,Uu,szV,Pp,Bs,Br,Bt,con_One19.eq_def,con_One3.eq_def,con_Same19.eq_def,Zb,Zc,Ze,Zf,Z9,Qc,Qd,Qe,Qf,Qq,Qs,Q1,Q2,Q4,Q8,Jf,Jj,Jl,Jw,J2,J3,J4,J5,J7,Xa,Xe,Xm,Xn,Xu,X1,X2,X4,X5,X6,X7,Wa,Wd,Wf,Wg,Wr,Ws,Wt,Wu,Wv,Ww,Wx,Wy,W4,W5,W8,W9,Yd,Yh,Yw,Y5,Y6,Y9,Va,Vb,Vc,Vd,Ve,Vh,Vm,Vn,Vr,Vs,V4,V5,Ui,Uj,Uk,Ul,Ku]
     tactic =>
      try simp only [Uy] at *
      try simp only [nc2] at *
      try simp (maxSteps := 4000000) only [hs,Ut,Uw,Uv,Uu,szV,U1]
      repeat' (first | with_reducible assumption | with_reducible refine And.intro ?_ ?_ | intro _ | omega | (rw [Ux]; omega))
      refine Ke [4, 10, 11, 12, 13, 14, 15, 16, 17, 18, 19, 20, 21, 22, 23, 24, 25, 26, 27, 28, 29, 30, 31, 32, 33, 34, 35, 36, 37, 38, 39, 40, 41] (fun k : Nat => [(5, .d (.int .i64 k))]) (fun k : Nat => []) (fun k : Nat => k ≤ a.length ∧ ∀ j, j < k → (a.getD j v0).t = (b.getD j v0).t ∧ (a.getD j v0).u = (b.getD j v0).u) (fun k : Nat => a.length - k) 0 ?_ ?_ ?_
      · simp
      · ((try simp only [Uz, killAll, setSlots, updAll, upd, U9, setCs, putC, Nat.reduceDiv, Nat.reduceMod, Nat.reduceMul, Nat.reduceAdd, Nat.reduceEqDiff, List.set_cons_zero, List.set_cons_succ, if_true, if_false, reduceIte]); (first | refine Wk.of_fl ?_ | skip); simp only [Wk, wkK, wkCs, wkT, wk1, AV.kept, keptAll, wkO, lk, wkObj, and_true, true_and, and_self, Nat.reduceEqDiff, Nat.reduceLeDiff, if_true, if_false, reduceIte, reduceCtorEq, Option.isSome, false_implies]; try simp [Wk, wkK, wkT, wk1, AV.kept, keptAll, wkO, lk, wkObj])
      rintro k ⟨hk, hno⟩
      rcases Kf k a.length with ⟨hlt, hlb⟩ | ⟨hlt, hlb⟩
      · have hlt2 : k < b.length := by omega
        have q1 := U8 v0 hlt
        have q2 := U8 v0 hlt2
        obtain ⟨s1, s2⟩ := hA _ (M3 (d := v0) hlt)
        obtain ⟨s3, s4⟩ := hB _ (M3 (d := v0) hlt2)
        have hbad : ((a.getD k v0).t ≠ (b.getD k v0).t ∨ (a.getD k v0).u ≠ (b.getD k v0).u) → oneV a b = false := by
          intro h
          unfold oneV
          rw [decide_eq_false_iff_not]
          intro e
          subst e
          rcases h with h | h <;> exact h rfl
        have hgood : (a.getD k v0).t = (b.getD k v0).t → (a.getD k v0).u = (b.getD k v0).u → ∀ j, j < k + 1 → (a.getD j v0).t = (b.getD j v0).t ∧ (a.getD j v0).u = (b.getD j v0).u := by
          intro h1 h2 j hj
          by_cases hjk : j = k
          · subst hjk; exact ⟨h1, h2⟩
          · exact hno j (by omega)
        obtain ⟨x, hx⟩ : ∃ x, a.getD k v0 = x := ⟨_, rfl⟩
        obtain ⟨y, hy⟩ : ∃ y, b.getD k v0 = y := ⟨_, rfl⟩
        rw [hx] at q1 s1 s2 hbad hgood
        rw [hy] at q2 s3 s4 hbad hgood
        cases e1 : (x.t == y.t) with
        | false =>
          have hr := hbad (.inl (by simpa using e1))
          (sym =>
           simp [hlb,q1,q2,e1,hr,Ut,Uw,Uv,Uu,szV,Ur,Up,Us,Uo,szN,Uq,Pp,Bs,Br,Bt,Dm,con_One3.eq_def,con_Same19.eq_def,Zb,Zc,Zd,Ze,Zf,Zg,Zh,Zi,Zj,Zk,Zl,Zm,Zo,Zp,Zq,Zs,Zt,Zv,Zx,Zy,Z6,Z9,Qb,Qc,Qd,Qe,Qf,Qn,Qo,Qp,Qq,Qr,Qs,Q1,Q2,Q4,Q5,Q6,Q8,Jf,Jj,Jk,Jl,Jx,Jy,Jz,J4,J5,J6,J7,J8,J9,Xa,Xb,Xe,Xu,X1,X2,X3,X4,X5,X6,X9,Wa,Wb,Wc,Wd,We,Wf,Wg,Wh,Wn,Wo,Wp,Wq,Wr,Ws,Wt,Wu,Wv,Wx,Wy,W0,W3,W6,W7,W8,W9,Yb,Yc,Yd,Yg,Yh,Yk,Yt,Yu,Yw,Yy,Yz,Y5,Y6,Y7,Y8,Va,Vi,Vj,Vo,Vp,Vr,Vs,V5,Uh,Ui,Uj,Uk,Ul,Um,Un,U2,Ku,U3,Kc,Kd]
           tactic =>
            try simp only [Uy] at *
            try simp only [nc2] at *
            try simp (maxSteps := 4000000) only [hlb,q1,q2,e1,hr,Ut,Uw,Uv,Uu,szV,Ur,Up,Us,Uo,szN,Uq,U1]
            repeat' (first | with_reducible assumption | with_reducible refine And.intro ?_ ?_ | intro _ | omega | (rw [Ux]; omega))
            all_goals first
              | (with_reducible refine Kh ?_; kernel_rfl)
              | omega
              | skip)
        | true =>
          cases e2 : (x.u == y.u) with
          | false =>
            have hr := hbad (.inr (by simpa using e2))
            (sym =>
             simp [hlb,q1,q2,e1,e2,hr,Ut,Uw,Uv,Uu,szV,Ur,Up,Us,Uo,szN,Uq,Pp,Bs,Br,Bt,Dm,con_One3.eq_def,con_Same19.eq_def,Zb,Zc,Zd,Ze,Zf,Zg,Zh,Zi,Zj,Zk,Zl,Zm,Zo,Zp,Zq,Zs,Zt,Zv,Zx,Zy,Z6,Z9,Qb,Qc,Qd,Qe,Qf,Qn,Qo,Qp,Qq,Qr,Qs,Q1,Q2,Q4,Q5,Q6,Q8,Jf,Jj,Jk,Jl,Jx,Jy,Jz,J4,J5,J6,J7,J8,J9,Xa,Xb,Xe,Xu,X1,X2,X3,X4,X5,X6,X9,Wa,Wb,Wc,Wd,We,Wf,Wg,Wh,Wn,Wo,Wp,Wq,Wr,Ws,Wt,Wu,Wv,Wx,Wy,W0,W3,W6,W7,W8,W9,Yb,Yc,Yd,Yg,Yh,Yk,Yt,Yu,Yw,Yy,Yz,Y5,Y6,Y7,Y8,Va,Vi,Vj,Vn,Vo,Vp,Vr,Vs,V5,Uh,Ui,Uj,Uk,Ul,Um,Un,U2,Ku,U3,Kc,Kd]
             tactic =>
              try simp only [Uy] at *
              try simp only [nc2] at *
              try simp (maxSteps := 4000000) only [hlb,q1,q2,e1,e2,hr,Ut,Uw,Uv,Uu,szV,Ur,Up,Us,Uo,szN,Uq,U1]
              repeat' (first | with_reducible assumption | with_reducible refine And.intro ?_ ?_ | intro _ | omega | (rw [Ux]; omega))
              all_goals first
                | (with_reducible refine Kh ?_; kernel_rfl)
                | omega
                | skip)
          | true =>
            have hst := hgood (by simpa using e1) (by simpa using e2)
            (sym =>
             simp [hlb,q1,q2,e1,e2,Ut,Uw,Uv,Uu,szV,Ur,Up,Us,Uo,szN,Uq,Pp,Bs,Bt,Dm,con_One3.eq_def,con_Same19.eq_def,Zb,Zc,Zd,Ze,Zf,Zg,Zh,Zi,Zj,Zk,Zl,Zm,Zo,Zp,Zq,Zs,Zt,Zv,Zx,Zy,Z6,Z9,Qb,Qc,Qd,Qe,Qf,Qq,Qr,Qs,Q1,Q2,Q4,Q5,Q6,Q8,Jf,Jj,Jl,Jx,Jy,Jz,J4,J5,J6,J7,J8,J9,Xa,Xb,Xe,Xu,X1,X2,X3,X4,X5,X6,Wa,Wb,Wc,Wd,We,Wf,Wg,Wh,Wn,Wo,Wp,Wq,Wr,Ws,Wt,Wu,Wv,Wx,Wy,W0,W3,W6,W7,W8,W9,Yb,Yc,Yd,Yg,Yh,Yk,Yt,Yu,Yw,Yy,Yz,Y5,Y6,Y7,Y8,Va,Vi,Vj,Vn,Vp,Vr,Vs,V4,V5,Uh,Ui,Uj,Uk,Ul,Um,Un,U2,Ku,U3,Kc,Kd]
             tactic =>
              try simp only [Uy] at *
              try simp only [nc2] at *
              try simp (maxSteps := 4000000) only [hlb,q1,q2,e1,e2,Ut,Uw,Uv,Uu,szV,Ur,Up,Us,Uo,szN,Uq,U1]
              repeat' (first | with_reducible assumption | with_reducible refine And.intro ?_ ?_ | intro _ | omega | (rw [Ux]; omega))
              all_goals first
                | (with_reducible refine Kh ?_; kernel_rfl)
                | omega
                | exact ⟨k + 1, by ((try simp only [Uz, killAll, setSlots, updAll, upd, U9, setCs, putC, Nat.reduceDiv, Nat.reduceMod, Nat.reduceMul, Nat.reduceAdd, Nat.reduceEqDiff, List.set_cons_zero, List.set_cons_succ, if_true, if_false, reduceIte]); (first | refine Wk.of_fl ?_ | skip); simp only [Wk, wkK, wkCs, wkT, wk1, AV.kept, keptAll, wkO, lk, wkObj, and_true, true_and, and_self, Nat.reduceEqDiff, Nat.reduceLeDiff, if_true, if_false, reduceIte, reduceCtorEq, Option.isSome, false_implies]; try simp [Wk, wkK, wkT, wk1, AV.kept, keptAll, wkO, lk, wkObj]), by omega, hst, by omega⟩
                | skip)
      · have hr : oneV a b = true := by
          unfold oneV
          rw [decide_eq_true_eq]
          refine List.ext_getElem hlen fun j h1 h2 => ?_
          obtain ⟨g1, g2⟩ := hno j (by omega)
          have g3 : normV a[j] = normV b[j] := by
            have := congrArg (fun l => l[j]?) hsn
            simpa [h1, h2] using this
          rw [N1 h1, N1 h2] at g1 g2
          revert g1 g2 g3
          generalize a[j] = p
          generalize b[j] = q
          intro g1 g2 g3
          unfold normV at g3
          obtain ⟨p1, p2, p3, p4, p5, p6, p7⟩ := p
          obtain ⟨q1, q2, q3, q4, q5, q6, q7⟩ := q
          simp only [VNode.mk.injEq] at *
          exact ⟨g3.1, g3.2.1, g3.2.2.1, g3.2.2.2.1, g3.2.2.2.2.1, g1, g2⟩
        (sym =>
         simp [hlb,hr,Ut,Uw,Uv,Uu,szV,Pp,Br,Zb,Zc,Ze,Zf,Zg,Zo,Z6,Qb,Qd,Qn,Qo,Qp,Qq,Qs,Q1,Q2,Q4,Q8,Jk,Jx,Jy,Jz,J4,J5,J7,J9,Xa,Xb,Xe,X2,X4,X5,X8,X9,Wa,Wd,Wf,Wg,Wh,Wr,Ws,Wt,Wu,W8,W9,Yb,Yc,Yg,Yy,Yz,Y5,Y6,Y7,Y8,Vr,Vs,V5,Ui,Uj,Uk,Ul,Um,U2,Kc,Kd]))
theorem Dd {v : List VNode} {l : List (Sl Node)} (h : givenB v l = true) : v.length ≤ 40 ∧ fewV v 40 = true ∧ (∃ x, v = nds x ∧ VT x) ∧ ∀ t ∈ l, plain7 t.l 30 = true := by
  unfold givenB at h
  rw [Bool.and_eq_true, Bool.and_eq_true, List.all_eq_true] at h
  exact ⟨(few_of h.2.1).1, h.2.1, Bn.1 h.2.2, h.1⟩
theorem Ot {n : VNode} {ks : List (Rose VNode)} {t : Rose Node} {l : List (Rose Node)} (ht : Named (nds t)) (h : partsR n ks t = some l) : ∀ y ∈ l, Named (nds y) := by
  refine Iq (P := fun y => Named (nds y)) h (by intro m hm; rw [Th, List.mem_singleton] at hm; rw [hm]; simp) fun j hj => ?_
  intro m hm
  rw [L9] at hm
  have hk := kid_memN hj
  cases hz : nds t.kids[j] with
  | nil => rw [hz] at hm; simp [clr] at hm
  | cons a r =>
    rw [hz] at hm
    rw [clr, List.mem_cons] at hm
    rcases hm with rfl | hm
    · simp
    · exact ht m (hk m (by rw [hz]; simp [hm]))
theorem named_norm {t : List Node} (h : Named t) : Named (t.map norm) := by
  intro m hm
  rw [List.mem_map] at hm
  obtain ⟨n, hn, rfl⟩ := hm
  rw [B6]
  exact h n hn
theorem good_relab {n : VNode} (h : GoodN n) : GoodN (relab n) := ⟨h.1, h.2.1, h.2.2.1, by simp [relab]⟩
theorem getD_P {P : Rose Node → Prop} {l : List (Rose Node)} (h0 : P dynT) (h : ∀ y ∈ l, P y) (j : Nat) : P (l.getD j dynT) := by
  by_cases hj : j < l.length
  · rw [N1 hj]; exact h _ (List.getElem_mem hj)
  · rw [List.getD_eq_getElem?_getD, List.getElem?_eq_none (by omega)]; exact h0
theorem named_dyn : Named (nds dynT) := by intro m hm; rw [Th, List.mem_singleton] at hm; rw [hm]; simp
theorem cast_good {lab : Int} : ∀ (N : Nat) {x y : Rose VNode} {t u : Rose Node}, (nds x).length ≤ N → (∀ m ∈ nds x, GoodN m) → (TyT t ∧ Named (nds t)) → (TyT u ∧ Named (nds u)) → castR lab x t u = some y → ∀ m ∈ nds y, GoodN m
  | 0, x, y, t, u, hN, _, _, _, _ => by have := K8 x; omega
  | N + 1, mk n ks, y, t, u, hN, hx, ht, hu, hc => by
    cases hs : same3 (nds t) (nds u) with
    | true => rw [M1 hs] at hc; injection hc with hc; subst hc; exact hx
    | false =>
      cases hf : isFunB n with
      | true =>
        rw [Tu hs hf] at hc
        unfold funR at hc
        have har : ∀ t : Rose Node, (TyT t ∧ Named (nds t)) → (nds (arrR t)).length ≤ 1000000 ∧ Named (nds (arrR t)) := by
          intro t ht
          unfold arrR
          cases t.root.kind == 0 with
          | true =>
            refine ⟨by rw [cond_true, Iv]; decide, ?_⟩
            intro m hm
            have h : m ∈ [(⟨5, [], 0⟩ : Node), ⟨0, [], 0⟩, ⟨0, [], 0⟩] := hm
            have : m = ⟨5, [], 0⟩ ∨ m = ⟨0, [], 0⟩ := by simpa using h
            rcases this with rfl | rfl <;> simp
          | false => exact ⟨ht.1.2, ht.2⟩
        cases c1 : ((arrR u).root.kind == 5) with
        | false => rw [c1, cond_false] at hc; cases hc
        | true =>
          rw [c1, cond_true] at hc
          cases c2 : same3 (nds (arrR t)) (nds (arrR u)) with
          | true => rw [c2, cond_true] at hc; injection hc with hc; subst hc; exact hx
          | false =>
            rw [c2, cond_false] at hc
            injection hc with hc
            subst hc
            intro m hm
            rw [wrapT, K6, ndss, ndss, List.append_nil, Fd, K6, relabL, List.mem_cons, List.mem_cons] at hm
            have hn := hx n (by rw [K6]; simp)
            rcases hm with rfl | rfl | hm
            · obtain ⟨a1, a2⟩ := har t ht
              obtain ⟨b1, b2⟩ := har u hu
              exact ⟨⟨by rw [List.length_map]; exact a1, named_norm a2⟩, ⟨by rw [List.length_map]; exact b1, named_norm b2⟩, by simp, hn.2.2.2⟩
            · exact good_relab hn
            · exact hx m (by rw [K6]; simp [hm])
      | false =>
        cases h45 : (n.kind == 4 || n.kind == 5) with
        | false =>
          rw [Pr hs hf h45] at hc
          cases hb : (!(u.root.kind == 0) && !isBaseB n u.root.kind) with
          | true => rw [hb, cond_true] at hc; cases hc
          | false => rw [hb, cond_false] at hc; injection hc with hc; subst hc; exact hx
        | true =>
          obtain ⟨a, b, ys, hpa, hpb, rfl, hyl, hyc⟩ := (Tt hs hf h45).1 hc
          intro m hm
          rw [K6, List.mem_cons] at hm
          rcases hm with rfl | hm
          · exact hx _ (by rw [K6]; simp)
          · have : ∀ (zs : List (Rose VNode)), m ∈ ndss zs → ∃ j, ∃ hj : j < zs.length, m ∈ nds zs[j] := by
              intro zs
              induction zs with
              | nil => intro h; simp [ndss] at h
              | cons z zs ih =>
                intro h
                rw [ndss, List.mem_append] at h
                rcases h with h | h
                · exact ⟨0, by simp, h⟩
                · obtain ⟨j, hj, hm⟩ := ih h
                  exact ⟨j + 1, by simpa using hj, hm⟩
            obtain ⟨j, hj, hm2⟩ := this ys hm
            have h3 := hyc j hj
            rw [N1 (show j < ks.length by omega)] at h3
            exact cast_good N (by have := Nw (n := n) (show j < ks.length by omega); omega) (fun m hm => hx m (C8 (x := mk n ks) (show j < ks.length by omega) m hm))
              ⟨getD_P tyT_dyn (P8 ht.1 hpa) j, getD_P (P := fun y => Named (nds y)) named_dyn (Ot ht.2 hpa) j⟩
              ⟨getD_P tyT_dyn (P8 hu.1 hpb) j, getD_P (P := fun y => Named (nds y)) named_dyn (Ot hu.2 hpb) j⟩ h3 m hm2
theorem plain_good : ∀ (N : Nat) {x : Rose VNode}, (nds x).length ≤ N → (∀ m ∈ nds x, GoodN m) → ∀ m ∈ nds (plainR x), GoodN m
  | 0, x, hN, _ => by have := K8 x; omega
  | N + 1, mk n ks, hN, hx => by
    have hn := hx n (by rw [K6]; simp)
    intro m hm
    rw [plainR] at hm
    cases hf : isFunB n with
    | true =>
      rw [hf, cond_true, K6, ndss, List.mem_singleton] at hm
      rw [hm]
      exact ⟨⟨by simp, by intro m hm; simp at hm⟩, ⟨by simp, by intro m hm; simp at hm⟩, by simp, hn.2.2.2⟩
    | false =>
      rw [hf, cond_false, K6, H7, List.mem_cons] at hm
      rcases hm with rfl | hm
      · exact hn
      · have : ∀ (zs : List (Rose VNode)), m ∈ ndss zs → ∃ z ∈ zs, m ∈ nds z := by
          intro zs
          induction zs with
          | nil => intro h; simp [ndss] at h
          | cons z zs ih =>
            intro h
            rw [ndss, List.mem_append] at h
            rcases h with h | h
            · exact ⟨z, by simp, h⟩
            · obtain ⟨w, hw, hm⟩ := ih h
              exact ⟨w, by simp [hw], hm⟩
        obtain ⟨z, hz, hm2⟩ := this _ hm
        rw [List.mem_map] at hz
        obtain ⟨k, hk, rfl⟩ := hz
        obtain ⟨j, hj, rfl⟩ := List.getElem_of_mem hk
        exact plain_good N (x := ks[j]) (by have := Nw (n := n) hj; omega) (fun m hm => hx m (C8 (x := mk n ks) hj m hm)) m hm2
theorem cast_right {lab : Int} (hl : 0 ≤ lab) {x y : Rose VNode} {t u : Rose Node} (hx : VT x) (h40 : (nds x).length ≤ 40) (ht : PT t) (hu : PT u) (ha : agX false t u = true) (hf : fitsR x t = true) (hc : castR lab x t u = some y) : VT y ∧ fitsR y u = true := by
  obtain ⟨h1, h2, h3, h4⟩ := Lw hl _ (Nat.le_refl _) hx.wf hx.ok ht hu ha hf hc
  have := cast_len hc
  exact ⟨⟨h2, by omega, by rw [h4]; exact hx.name, h3⟩, h1⟩
theorem Mb {t : Rose Node} (h : PT t) : Tree7 (nds t) := ⟨h.1.len, h.1.numb, t, rfl, h.1.wf⟩
end Go.Am.Ty
set_option linter.unusedSimpArgs false
set_option linter.unusedVariables false
set_option maxHeartbeats 2000000
namespace Go.Am.Ty
open Go.Proofs Go.Rose Go.Rose.Rose
open Enc (enc dec)
theorem in2 {t u : List Node} (ht : In t) (hu : In u) : ∀ s ∈ [(⟨t⟩ : Sl Node), ⟨u⟩], In s.l := by
  intro s hs
  simp only [List.mem_cons, List.not_mem_nil, or_false] at hs
  rcases hs with rfl | rfl
  · exact ht
  · exact hu
theorem N6 {y : Rose VNode} : optX (some y) = (⟨nds y⟩, true) := rfl
theorem N7 : optX none = (⟨[]⟩, false) := rfl
def con_ValueKeeps : Con := con3 (fun (v : Sl VNode) (t u : Sl Node) => InVal v.l ∧ In t.l ∧ In u.l) (fun _ _ _ => true)
noncomputable def ctx_ValueKeeps : Ctx := ⟨tab, lkC [(32, con_given19), (33, con_Agree7A), (34, con_FitsVA), (27, con_alive19), (35, con_CastVA), (36, con_Below7A), (28, con_RightV), (17, con_Same3), (37, con_One19)], 60, lkB [], [], false⟩
theorem Nb : ctx_ValueKeeps.τ = tab := rfl
theorem Nd : ctx_ValueKeeps.Γ = lkC [(32, con_given19), (33, con_Agree7A), (34, con_FitsVA), (27, con_alive19), (35, con_CastVA), (36, con_Below7A), (28, con_RightV), (17, con_Same3), (37, con_One19)] := rfl
theorem Nc : ctx_ValueKeeps.dp = 60 := rfl
theorem Nf : ctx_ValueKeeps.Δ = lkB [] := rfl
set_option maxRecDepth 100000 in
theorem good_ValueKeeps : Good Try.prog (8, con_ValueKeeps) := by
  refine ⟨U0 Try.func8 (by kernel_rfl) rfl, ?_⟩
  have K : CtxOk Try.prog ctx_ValueKeeps := U4 Ki Ka (by
    intro p hp
    simp only [List.mem_cons, List.not_mem_nil, or_false] at hp
    rcases hp with rfl | rfl | rfl | rfl | rfl | rfl | rfl | rfl | rfl
    · exact Pv
    · exact B9
    · exact Pm
    · exact Mp
    · exact Pn
    · exact Cg
    · exact Db
    · exact Cd
    · exact Cf) (by simp)
  obtain ⟨c, hc⟩ : ∃ c, Try.f8.body = some c := ⟨_, rfl⟩
  refine U5 K Try.func8 hc [.tmp 6] rfl 75 rfl (fun cvs hpre => ?_)
  change con_ValueKeeps.pre cvs at hpre
  unfold con_ValueKeeps at hpre
  obtain ⟨⟨v⟩, ⟨t⟩, ⟨u⟩, rfl, hV, hT, hU⟩ := P3 hpre
  have hV' : InVal v := hV
  have ⟨t1, t2⟩ : In t := hT
  have ⟨u1, u2⟩ : In u := hU
  have hI := in2 hT hU
  have hT' : In t := hT
  have hU' : In u := hU
  clear hpre
  simp only [Try.f8, Option.some.injEq] at hc
  subst hc
  refine Kl 4 (of_decide_eq_true (by kernel_rfl)) ?_
  cases hg : givenB v [⟨t⟩, ⟨u⟩] with
  | false =>
    (sym =>
     simp [hg,Ut,Uw,Uv,Uu,szV,Ur,Up,Us,Uo,szN,Uq,Nb,Nd,Nc,Nf,con_Agree7A.eq_def,con_Below7A.eq_def,con_CastVA.eq_def,con_FitsVA.eq_def,con_One19.eq_def,con_RightV.eq_def,con_Same3.eq_def,con_ValueKeeps.eq_def,con_alive19.eq_def,con_given19.eq_def,Zb,Zc,Zd,Ze,Zf,Zo,Zr,Zt,Z1,Z9,Qc,Qd,Qe,Qf,Qn,Qo,Qp,Qq,Qs,Q1,Q2,Q4,Q8,Jb,Jc,Jd,Je,Jf,Jg,Jh,Ji,Jj,Jk,Jl,Jw,J2,J3,J4,J5,J7,J8,Xa,Xb,Xc,Xd,Xe,Xg,Xm,Xn,Xs,Xt,Xu,Xv,X2,X4,X5,X9,Wa,Wd,Wf,Wg,Wh,Wl,Wr,Ws,Wt,Wu,Wv,Ww,Wx,Wy,Wz,W0,W3,W4,W5,W6,W7,W8,W9,Yd,Yh,Yw,Y0,Y5,Y6,Y7,Y8,Y9,Va,Vb,Vc,Vd,Ve,Vh,Vi,Vm,Vo,Vr,Vs,V3,V5,V9,Uh,Uj,Uk,Ul,Ku,U3,K7]
     tactic =>
      try simp only [Uy] at *
      try simp only [nc2] at *
      try simp (maxSteps := 4000000) only [hg,Ut,Uw,Uv,Uu,szV,Ur,Up,Us,Uo,szN,Uq,U1]
      repeat' (first | with_reducible assumption | with_reducible refine And.intro ?_ ?_ | intro _ | omega | (rw [Ux]; omega))
      all_goals first
        | exact hV'
        | exact hI
        | exact hT'
        | exact hU'
        | omega
        | skip)
  | true =>
  obtain ⟨g1, g2, ⟨x, hx, hvt⟩, g3⟩ := Dd hg
  obtain ⟨lt, y, hy, py⟩ := Nu (g3 ⟨t⟩ (by simp))
  obtain ⟨lu, w, hw, pw⟩ := Nu (g3 ⟨u⟩ (by simp))
  simp only at lt lu hy hw
  have ov : OneV v x := ⟨hx, hvt.wf⟩
  have oy : OneN t y := ⟨hy, py.ty⟩
  have ow : OneN u w := ⟨hw, pw.ty⟩
  have tx := ov.tree
  have ty := oy.tree
  have tw := ow.tree
  have t7 : Tree7 t := by rw [hy]; exact Mb py
  have u7 : Tree7 u := by rw [hw]; exact Mb pw
  have tp : plain3 t = true := by rw [hy]; exact py.2
  have up : plain3 u = true := by rw [hw]; exact pw.2
  have gn := Dc hV' g2
  have sn := Tc hV'
  have iv := I1 hV'
  cases ha : agX false y w with
  | false =>
    (sym =>
     simp [hg,tx,ty,tw,ha,Kg,Kk,U6,U7,con4t.eq_def,Ut,Uw,Uv,Uu,szV,Ur,Up,Us,Uo,szN,Uq,Nb,Nd,Nc,Nf,con_One19.eq_def,con_RightV.eq_def,con_Same3.eq_def,con_ValueKeeps.eq_def,con_alive19.eq_def,con_given19.eq_def,Zb,Zc,Zd,Ze,Zf,Zo,Zr,Zt,Z1,Z9,Qc,Qd,Qe,Qf,Qn,Qo,Qp,Qq,Qs,Q1,Q2,Q4,Q8,Jb,Jc,Jd,Je,Jf,Jg,Jh,Ji,Jj,Jk,Jl,Jw,J2,J3,J4,J5,J7,J8,Xa,Xb,Xc,Xd,Xe,Xg,Xm,Xn,Xs,Xt,Xu,Xv,X2,X4,X5,X9,Wa,Wd,Wf,Wg,Wh,Wl,Wr,Ws,Wt,Wu,Wv,Ww,Wx,Wy,Wz,W0,W3,W4,W5,W6,W7,W8,W9,Yd,Yh,Yw,Y0,Y5,Y6,Y7,Y8,Y9,Va,Vb,Vc,Vd,Ve,Vh,Vi,Vm,Vn,Vo,Vr,Vs,V3,V5,V9,Uh,Ui,Uj,Uk,Ul,Ku,U3,K7]
     tactic =>
      try simp only [Uy] at *
      try simp only [nc2] at *
      try simp (maxSteps := 4000000) only [hg,tx,ty,tw,ha,Kg,Kk,U6,U7,con4t.eq_def,Ut,Uw,Uv,Uu,szV,Ur,Up,Us,Uo,szN,Uq,U1]
      repeat' (first | with_reducible assumption | with_reducible refine And.intro ?_ ?_ | intro _ | omega | (rw [Ux]; omega))
      all_goals first
        | exact hI
        | omega
        | skip)
  | true =>
  cases hf : fitsR x y with
  | false =>
    (sym =>
     simp [hg,tx,ty,tw,ha,hf,Kg,Kk,U6,U7,con4t.eq_def,Ut,Uw,Uv,Uu,szV,Ur,Up,Us,Uo,szN,Uq,Nb,Nd,Nc,Nf,con_One19.eq_def,con_RightV.eq_def,con_Same3.eq_def,con_ValueKeeps.eq_def,con_alive19.eq_def,con_given19.eq_def,Zb,Zc,Zd,Ze,Zf,Zo,Zr,Zt,Z1,Z9,Qc,Qd,Qe,Qf,Qn,Qo,Qp,Qq,Qs,Q1,Q2,Q4,Q8,Jb,Jc,Jd,Je,Jf,Jg,Jh,Ji,Jj,Jk,Jl,Jw,J2,J3,J4,J5,J7,J8,Xa,Xb,Xc,Xd,Xe,Xg,Xm,Xn,Xs,Xt,Xu,Xv,X2,X4,X5,X9,Wa,Wd,Wf,Wg,Wh,Wl,Wr,Ws,Wt,Wu,Wv,Ww,Wx,Wy,Wz,W0,W3,W4,W5,W6,W7,W8,W9,Yd,Yh,Yw,Y0,Y5,Y6,Y7,Y8,Y9,Va,Vb,Vc,Vd,Ve,Vh,Vi,Vm,Vn,Vo,Vr,Vs,V3,V5,V9,Uh,Ui,Uj,Uk,Ul,Ku,U3,K7]
     tactic =>
      try simp only [Uy] at *
      try simp only [nc2] at *
      try simp (maxSteps := 4000000) only [hg,tx,ty,tw,ha,hf,Kg,Kk,U6,U7,con4t.eq_def,Ut,Uw,Uv,Uu,szV,Ur,Up,Us,Uo,szN,Uq,U1]
      repeat' (first | with_reducible assumption | with_reducible refine And.intro ?_ ?_ | intro _ | omega | (rw [Ux]; omega))
      all_goals first
        | exact hI
        | exact ⟨_, ov⟩
        | exact ⟨_, oy⟩
        | omega
        | skip)
  | true =>
  cases hc : castR 7 x y w with
  | none =>
    have hb : agX true y w = false := by
      rw [Bool.eq_false_iff]
      intro hb
      obtain ⟨z, hz⟩ := F3 (lab := 7) _ (Nat.le_refl _) hvt.wf hvt.ok py pw hb hf
      rw [hz] at hc
      cases hc
    (sym =>
     simp [hg,tx,ty,tw,ha,hf,hc,hb,N7,Kg,Kk,U6,U7,con4t.eq_def,Ut,Uw,Uv,Uu,szV,Ur,Up,Us,Uo,szN,Uq,Nb,Nd,Nc,Nf,con_One19.eq_def,con_RightV.eq_def,con_Same3.eq_def,con_ValueKeeps.eq_def,con_alive19.eq_def,con_given19.eq_def,Zb,Zc,Zd,Ze,Zf,Zo,Zr,Zt,Z1,Z6,Z8,Z9,Qb,Qc,Qd,Qe,Qf,Qg,Qn,Qo,Qp,Qq,Qs,Q1,Q2,Q4,Q8,Q9,Ja,Jb,Jc,Jd,Je,Jf,Jg,Jh,Ji,Jj,Jk,Jl,Jw,J2,J3,J4,J5,J7,J8,Xa,Xb,Xc,Xd,Xe,Xg,Xm,Xn,Xs,Xt,Xu,Xv,X1,X2,X4,X5,X9,Wa,Wd,Wf,Wg,Wh,Wl,Wr,Ws,Wt,Wu,Wv,Ww,Wx,Wy,Wz,W0,W3,W4,W5,W6,W7,W8,W9,Yc,Yd,Yg,Yh,Yw,Yy,Yz,Y0,Y5,Y6,Y7,Y8,Y9,Va,Vb,Vc,Vd,Ve,Vf,Vh,Vi,Vk,Vm,Vn,Vo,Vr,Vs,V1,V3,V4,V5,V9,Uh,Ui,Uj,Uk,Ul,U2,Ku,U3,Kc,Kd,K7]
     tactic =>
      try simp only [Uy] at *
      try simp only [nc2] at *
      try simp (maxSteps := 4000000) only [hg,tx,ty,tw,ha,hf,hc,hb,N7,Kg,Kk,U6,U7,con4t.eq_def,Ut,Uw,Uv,Uu,szV,Ur,Up,Us,Uo,szN,Uq,U1]
      repeat' (first | with_reducible assumption | with_reducible refine And.intro ?_ ?_ | intro _ | omega | (rw [Ux]; omega))
      all_goals first
        | exact hI
        | exact ⟨_, ov⟩
        | exact ⟨_, oy⟩
        | exact ⟨_, ow⟩
        | omega
        | skip)
  | some z =>
    obtain ⟨vz, fz⟩ := cast_right (by decide) hvt (by rw [← hx]; exact g1) py pw ha hf hc
    have oz : OneV (nds z) z := ⟨rfl, vz.wf⟩
    have tz := oz.tree
    have zl := cast_len hc
    rw [← hx] at zl
    have zp := K8 z
    have gz := cast_good _ (Nat.le_refl _) (by rw [← hx]; exact gn) ⟨py.ty, by rw [← hy]; exact t2⟩ ⟨pw.ty, by rw [← hw]; exact u2⟩ hc
    have sz := fun m hm => Rd (gz m hm)
    have iz : InV (nds z) := ⟨by omega, sz⟩
    have rz : rightV (nds z) = true := by rw [C3]; exact Bn.2 ⟨z, rfl, vz⟩
    have lz : ltB 0 ((nds z).length : Int) = true := by rw [G4]; omega
    cases hs : same3 t u with
    | false =>
      (sym =>
       simp [hg,tx,ty,tw,tz,ha,hf,hc,fz,rz,lz,hs,N6,Kg,Kk,U6,U7,con4t.eq_def,Ut,Uw,Uv,Uu,szV,Ur,Up,Us,Uo,szN,Uq,Nb,Nd,Nc,Nf,con_One19.eq_def,con_RightV.eq_def,con_Same3.eq_def,con_ValueKeeps.eq_def,con_alive19.eq_def,con_given19.eq_def,Zb,Zc,Zd,Ze,Zf,Zo,Zr,Zt,Z1,Z6,Z8,Z9,Qb,Qc,Qd,Qe,Qf,Qg,Qn,Qo,Qp,Qq,Qs,Q1,Q2,Q4,Q8,Q9,Ja,Jb,Jc,Jd,Je,Jf,Jg,Jh,Ji,Jj,Jk,Jl,Jw,J2,J3,J4,J5,J6,J7,J8,J9,Xa,Xb,Xc,Xd,Xe,Xg,Xm,Xn,Xs,Xt,Xu,Xv,X1,X2,X4,X5,X9,Wa,Wd,Wf,Wg,Wh,Wl,Wr,Ws,Wt,Wu,Wv,Ww,Wx,Wy,Wz,W0,W3,W4,W5,W6,W7,W8,W9,Yc,Yd,Yg,Yh,Yw,Yy,Yz,Y0,Y5,Y6,Y7,Y8,Y9,Va,Vb,Vc,Vd,Ve,Vf,Vh,Vi,Vk,Vm,Vn,Vo,Vr,Vs,V3,V4,V5,V9,Uh,Ui,Uj,Uk,Ul,Um,U2,Ku,U3,Kc,Kd,K7]
       tactic =>
        try simp only [Uy] at *
        try simp only [nc2] at *
        try simp (maxSteps := 4000000) only [hg,tx,ty,tw,tz,ha,hf,hc,fz,rz,lz,hs,N6,Kg,Kk,U6,U7,con4t.eq_def,Ut,Uw,Uv,Uu,szV,Ur,Up,Us,Uo,szN,Uq,U1]
        repeat' (first | with_reducible assumption | with_reducible refine And.intro ?_ ?_ | intro _ | omega | (rw [Ux]; omega))
        all_goals first
          | exact hI
          | exact ⟨_, ov⟩
          | exact ⟨_, oy⟩
          | exact ⟨_, ow⟩
          | exact ⟨_, oz⟩
          | exact gz
          | exact sz
          | omega
          | skip)
    | true =>
      have hzx : z = x := by
        rw [M1 (by rw [← hy, ← hw]; exact hs)] at hc
        injection hc with hc
        exact hc.symm
      have ho : oneV (nds z) v = true := by rw [hzx, ← hx]; exact D2 v
      (sym =>
       simp [hg,tx,ty,tw,tz,ha,hf,hc,fz,rz,lz,hs,ho,N6,Kg,Kk,U6,U7,con4t.eq_def,Ut,Uw,Uv,Uu,szV,Ur,Up,Us,Uo,szN,Uq,Nb,Nd,Nc,Nf,con_One19.eq_def,con_RightV.eq_def,con_Same3.eq_def,con_ValueKeeps.eq_def,con_alive19.eq_def,con_given19.eq_def,Zb,Zc,Zd,Ze,Zf,Zo,Zr,Zt,Z1,Z6,Z8,Z9,Qb,Qc,Qd,Qe,Qf,Qg,Qn,Qo,Qp,Qq,Qs,Q1,Q2,Q4,Q8,Q9,Ja,Jb,Jc,Jd,Je,Jf,Jg,Jh,Ji,Jj,Jk,Jl,Jw,J2,J3,J4,J5,J6,J7,J8,J9,Xa,Xb,Xc,Xd,Xe,Xg,Xm,Xn,Xs,Xt,Xu,Xv,X1,X2,X4,X5,X9,Wa,Wd,Wf,Wg,Wh,Wl,Wr,Ws,Wt,Wu,Wv,Ww,Wx,Wy,Wz,W0,W3,W4,W5,W6,W7,W8,W9,Yc,Yd,Yg,Yh,Yw,Yy,Yz,Y0,Y5,Y6,Y7,Y8,Y9,Va,Vb,Vc,Vd,Ve,Vf,Vh,Vi,Vk,Vm,Vn,Vr,Vs,V3,V4,V5,V9,Uh,Ui,Uj,Uk,Ul,Um,U2,Ku,U3,Kc,Kd,K7]
       tactic =>
        try simp only [Uy] at *
        try simp only [nc2] at *
        try simp (maxSteps := 4000000) only [hg,tx,ty,tw,tz,ha,hf,hc,fz,rz,lz,hs,ho,N6,Kg,Kk,U6,U7,con4t.eq_def,Ut,Uw,Uv,Uu,szV,Ur,Up,Us,Uo,szN,Uq,U1]
        repeat' (first | with_reducible assumption | with_reducible refine And.intro ?_ ?_ | intro _ | omega | (rw [Ux]; omega))
        all_goals first
          | exact hI
          | exact ⟨_, ov⟩
          | exact ⟨_, oy⟩
          | exact ⟨_, ow⟩
          | exact ⟨_, oz⟩
          | exact gz
          | exact sz
          | exact iz
          | exact iv
          | omega
          | skip)
end Go.Am.Ty
set_option linter.unusedSimpArgs false
set_option linter.unusedVariables false
set_option maxHeartbeats 2000000
namespace Go.Am.Ty
open Go.Proofs Go.Rose Go.Rose.Rose
open Enc (enc dec)
theorem Tg : OneN [⟨0, [], 0⟩] dynT := ⟨rfl, tyT_dyn⟩
theorem optX_2 (o : Option (Rose VNode)) : (optX o).2 = o.isSome := by cases o <;> rfl
def con_ValueLess : Con := con3 (fun (v : Sl VNode) (t u : Sl Node) => InVal v.l ∧ In t.l ∧ In u.l) (fun _ _ _ => true)
noncomputable def ctx_ValueLess : Ctx := ⟨tab, lkC [(32, con_given19), (34, con_FitsVA), (27, con_alive19), (35, con_CastVA), (36, con_Below7A)], 60, lkB [], [], false⟩
theorem M8 : ctx_ValueLess.τ = tab := rfl
theorem Pa : ctx_ValueLess.Γ = lkC [(32, con_given19), (34, con_FitsVA), (27, con_alive19), (35, con_CastVA), (36, con_Below7A)] := rfl
theorem M9 : ctx_ValueLess.dp = 60 := rfl
theorem Pb : ctx_ValueLess.Δ = lkB [] := rfl
set_option maxRecDepth 100000 in
theorem good_ValueLess : Good Try.prog (9, con_ValueLess) := by
  refine ⟨U0 Try.func9 (by kernel_rfl) rfl, ?_⟩
  have K : CtxOk Try.prog ctx_ValueLess := U4 Ki Ka (by
    intro p hp
    simp only [List.mem_cons, List.not_mem_nil, or_false] at hp
    rcases hp with rfl | rfl | rfl | rfl | rfl
    · exact Pv
    · exact Pm
    · exact Mp
    · exact Pn
    · exact Cg) (by simp)
  obtain ⟨c, hc⟩ : ∃ c, Try.f9.body = some c := ⟨_, rfl⟩
  refine U5 K Try.func9 hc [.tmp 6] rfl 68 rfl (fun cvs hpre => ?_)
  change con_ValueLess.pre cvs at hpre
  unfold con_ValueLess at hpre
  obtain ⟨⟨v⟩, ⟨t⟩, ⟨u⟩, rfl, hV, hT, hU⟩ := P3 hpre
  have hV' : InVal v := hV
  have ⟨t1, t2⟩ : In t := hT
  have ⟨u1, u2⟩ : In u := hU
  have hI := in2 hT hU
  have hT' : In t := hT
  have hU' : In u := hU
  clear hpre
  simp only [Try.f9, Option.some.injEq] at hc
  subst hc
  refine Kl 4 (of_decide_eq_true (by kernel_rfl)) ?_
  cases hg : givenB v [⟨t⟩, ⟨u⟩] with
  | false =>
    (sym =>
     simp [hg,Ut,Uw,Uv,Uu,szV,Ur,Up,Us,Uo,szN,Uq,M8,Pa,M9,Pb,con_Below7A.eq_def,con_CastVA.eq_def,con_FitsVA.eq_def,con_ValueLess.eq_def,con_alive19.eq_def,con_given19.eq_def,Zb,Zc,Zd,Ze,Zf,Zo,Zr,Zt,Z1,Z9,Qc,Qd,Qe,Qf,Qn,Qo,Qp,Qq,Qs,Q1,Q2,Q4,Q8,Jb,Jc,Jd,Je,Jf,Jg,Jh,Ji,Jj,Jk,Jl,Jw,J2,J3,J4,J5,J7,J8,Xa,Xb,Xc,Xd,Xe,Xg,Xm,Xn,Xs,Xu,Xv,X2,X4,X5,X9,Wa,Wd,Wf,Wg,Wh,Wl,Wr,Ws,Wt,Wu,Wv,Ww,Wx,Wy,Wz,W0,W3,W4,W5,W6,W7,W8,W9,Yd,Yh,Yw,Y0,Y5,Y6,Y7,Y8,Y9,Va,Vb,Vc,Vd,Ve,Vh,Vi,Vm,Vo,Vr,Vs,V3,V5,V9,Uh,Uj,Uk,Ul,Ku,U3,K7]
     tactic =>
      try simp only [Uy] at *
      try simp only [nc2] at *
      try simp (maxSteps := 4000000) only [hg,Ut,Uw,Uv,Uu,szV,Ur,Up,Us,Uo,szN,Uq,U1]
      repeat' (first | with_reducible assumption | with_reducible refine And.intro ?_ ?_ | intro _ | omega | (rw [Ux]; omega))
      all_goals first
        | exact hV'
        | exact hI
        | exact hT'
        | exact hU'
        | omega
        | skip)
  | true =>
  obtain ⟨g1, g2, ⟨x, hx, hvt⟩, g3⟩ := Dd hg
  obtain ⟨lt, y, hy, py⟩ := Nu (g3 ⟨t⟩ (by simp))
  obtain ⟨lu, w, hw, pw⟩ := Nu (g3 ⟨u⟩ (by simp))
  simp only at lt lu hy hw
  have ov : OneV v x := ⟨hx, hvt.wf⟩
  have oy : OneN t y := ⟨hy, py.ty⟩
  have ow : OneN u w := ⟨hw, pw.ty⟩
  have tx := ov.tree
  have ty := oy.tree
  have tw := ow.tree
  have td := Tg.tree
  have t7 : Tree7 t := by rw [hy]; exact Mb py
  have u7 : Tree7 u := by rw [hw]; exact Mb pw
  have tp : plain3 t = true := by rw [hy]; exact py.2
  have up : plain3 u = true := by rw [hw]; exact pw.2
  have sn := Tc hV'
  cases hb : agX true y w with
  | false =>
    (sym =>
     simp [hg,tx,ty,tw,hb,Kk,U6,U7,con4t.eq_def,Ut,Uw,Uv,Uu,szV,Ur,Up,Us,Uo,szN,Uq,M8,Pa,M9,Pb,con_ValueLess.eq_def,con_alive19.eq_def,con_given19.eq_def,Zb,Zc,Zd,Ze,Zf,Zo,Zr,Zt,Z1,Z9,Qc,Qd,Qe,Qf,Qn,Qo,Qp,Qq,Qs,Q1,Q2,Q4,Q8,Jb,Jc,Jd,Je,Jf,Jg,Jh,Ji,Jj,Jk,Jl,Jw,J2,J3,J4,J5,J7,J8,Xa,Xb,Xc,Xd,Xe,Xg,Xm,Xn,Xs,Xu,Xv,X2,X4,X5,X9,Wa,Wd,Wf,Wg,Wh,Wl,Wr,Ws,Wt,Wu,Wv,Ww,Wx,Wy,Wz,W0,W3,W4,W5,W6,W7,W8,W9,Yd,Yh,Yw,Y0,Y5,Y6,Y7,Y8,Y9,Va,Vb,Vc,Vd,Ve,Vh,Vi,Vm,Vn,Vo,Vr,Vs,V3,V5,V9,Uh,Ui,Uj,Uk,Ul,Ku,U3,K7]
     tactic =>
      try simp only [Uy] at *
      try simp only [nc2] at *
      try simp (maxSteps := 4000000) only [hg,tx,ty,tw,hb,Kk,U6,U7,con4t.eq_def,Ut,Uw,Uv,Uu,szV,Ur,Up,Us,Uo,szN,Uq,U1]
      repeat' (first | with_reducible assumption | with_reducible refine And.intro ?_ ?_ | intro _ | omega | (rw [Ux]; omega))
      all_goals first
        | exact hI
        | omega
        | skip)
  | true =>
  obtain ⟨p, hp⟩ : ∃ p, castR 7 x dynT y = p := ⟨_, rfl⟩
  obtain ⟨q, hq⟩ : ∃ q, castR 7 x dynT w = q := ⟨_, rfl⟩
  have hpq : (optX p).2 = true → (optX q).2 = true := by
    rw [optX_2, optX_2]
    intro h
    cases p with
    | none => cases h
    | some z =>
      obtain ⟨z2, hz2⟩ := Ib (lab := 7) _ (Nat.le_refl _) hvt.wf py pw hb hp
      rw [← hq, hz2]
      rfl
  have ovx : ∃ x, OneV v x := ⟨_, ov⟩
  cases hf : fitsR x y with
  | false =>
    (sym =>
     simp [hg,tx,ty,tw,td,hb,hf,hp,hq,Kk,U6,U7,con4t.eq_def,Ut,Uw,Uv,Uu,szV,Ur,Up,Us,Uo,szN,Uq,M8,Pa,M9,Pb,con_ValueLess.eq_def,con_alive19.eq_def,con_given19.eq_def,Zb,Zc,Zd,Ze,Zf,Zo,Zr,Zt,Z1,Z2,Z8,Z9,Qc,Qd,Qe,Qf,Qg,Qh,Ql,Qn,Qo,Qp,Qq,Qs,Q1,Q2,Q4,Q7,Q8,Q9,Ja,Jb,Jc,Jd,Je,Jf,Jg,Jh,Ji,Jj,Jk,Jl,Jw,J2,J3,J4,J5,J6,J7,J8,J9,Xa,Xb,Xc,Xd,Xe,Xg,Xm,Xn,Xr,Xs,Xu,Xv,X1,X2,X4,X5,X9,Wa,Wd,Wf,Wg,Wh,Wj,Wl,Wr,Ws,Wt,Wu,Wv,Ww,Wx,Wy,Wz,W0,W3,W4,W5,W6,W7,W8,W9,Yd,Yh,Yo,Yw,Y0,Y5,Y6,Y7,Y8,Y9,Va,Vb,Vc,Vd,Ve,Vf,Vh,Vi,Vk,Vm,Vn,Vr,Vs,V3,V4,V5,V9,Uh,Ui,Uj,Uk,Ul,Ku,U3,Kb,K7]
     tactic =>
      try simp only [Uy] at *
      try simp only [nc2] at *
      try simp (maxSteps := 4000000) only [hg,tx,ty,tw,td,hb,hf,hp,hq,Kk,U6,U7,con4t.eq_def,Ut,Uw,Uv,Uu,szV,Ur,Up,Us,Uo,szN,Uq,U1]
      repeat' (first | with_reducible assumption | with_reducible refine And.intro ?_ ?_ | intro _ | omega | (rw [Ux]; omega))
      all_goals first
        | exact hI
        | exact ovx
        | exact ⟨_, oy⟩
        | exact ⟨_, ow⟩
        | exact ⟨_, Tg⟩
        | omega
        | simp_all
        | skip)
  | true =>
    obtain ⟨z, hc⟩ := F3 (lab := 7) _ (Nat.le_refl _) hvt.wf hvt.ok py pw hb hf
    (sym =>
     simp [hg,tx,ty,tw,td,hb,hf,hp,hq,hc,N6,Kk,U6,U7,con4t.eq_def,Ut,Uw,Uv,Uu,szV,Ur,Up,Us,Uo,szN,Uq,M8,Pa,M9,Pb,con_ValueLess.eq_def,con_alive19.eq_def,con_given19.eq_def,Zb,Zc,Zd,Ze,Zf,Zo,Zr,Zt,Z1,Z2,Z8,Z9,Qc,Qd,Qe,Qf,Qg,Qh,Ql,Qn,Qo,Qp,Qq,Qs,Q1,Q2,Q4,Q7,Q8,Q9,Ja,Jb,Jc,Jd,Je,Jf,Jg,Jh,Ji,Jj,Jk,Jl,Jw,J2,J3,J4,J5,J6,J7,J8,J9,Xa,Xb,Xc,Xd,Xe,Xg,Xm,Xn,Xr,Xs,Xu,Xv,X1,X2,X4,X5,X9,Wa,Wd,Wf,Wg,Wh,Wj,Wl,Wr,Ws,Wt,Wu,Wv,Ww,Wx,Wy,Wz,W0,W3,W4,W5,W6,W7,W8,W9,Yd,Yh,Yo,Yw,Y0,Y5,Y6,Y7,Y8,Y9,Va,Vb,Vc,Vd,Ve,Vf,Vh,Vi,Vk,Vm,Vn,Vr,Vs,V3,V4,V5,V9,Uh,Ui,Uj,Uk,Ul,Ku,U3,Kb,K7]
     tactic =>
      try simp only [Uy] at *
      try simp only [nc2] at *
      try simp (maxSteps := 4000000) only [hg,tx,ty,tw,td,hb,hf,hp,hq,hc,N6,Kk,U6,U7,con4t.eq_def,Ut,Uw,Uv,Uu,szV,Ur,Up,Us,Uo,szN,Uq,U1]
      repeat' (first | with_reducible assumption | with_reducible refine And.intro ?_ ?_ | intro _ | omega | (rw [Ux]; omega))
      all_goals first
        | exact hI
        | exact ovx
        | exact ⟨_, oy⟩
        | exact ⟨_, ow⟩
        | exact ⟨_, Tg⟩
        | omega
        | simp_all
        | skip)
end Go.Am.Ty
