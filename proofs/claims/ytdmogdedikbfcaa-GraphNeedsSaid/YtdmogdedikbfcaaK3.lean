/- Contracts of functions that the law reaches, and plain laws. Conditions: those that each contract states. -/
import Derived.Test.YtdmogdedikbfcaaK2
import Derived.Test.YtdmogdedikbfcaaChecked
import Derived.Shelf.SlIter.Nil
import Derived.Shelf.SlIterI.Nil
import Derived.Shelf.SortM.Plain
import Derived.Shelf.SortM.SortNone
set_option linter.unusedSimpArgs false
set_option linter.unusedVariables false
set_option maxHeartbeats 1000000
namespace Go.Am.Graph
open Go.Proofs
open Enc (enc dec)
def tt : List (Nat × TI) := [(2, ⟨.int .i64, 1, 8, .d (.int .i64 0), .int .i64 0, []⟩), (3, ⟨.int .i64, 1, 8, .d (.int .i64 0), .int .i64 0, []⟩), (4, ⟨.bool, 1, 1, .d (.bool false), .bool false, []⟩), (5, ⟨.int .u8, 1, 1, .d (.int .u8 0), .int .u8 0, []⟩), (9, ⟨.str, 1, 16, .d (.str []), .str [], []⟩), (21, ⟨.int .i32, 1, 4, .d (.int .i32 0), .int .i32 0, []⟩), (22, ⟨.slice 34, 1, 24, .nils 4, .list 4 [], []⟩), (23, ⟨.func, 1, 8, .d .nilf, .nilf, []⟩), (24, ⟨.func, 1, 8, .d .nilf, .nilf, []⟩), (25, ⟨.slice 3, 1, 24, .nils 1, .list 1 [], []⟩), (26, ⟨.int .i64, 1, 8, .d (.int .i64 0), .int .i64 0, []⟩), (28, ⟨.func, 1, 8, .d .nilf, .nilf, []⟩), (29, ⟨.func, 1, 8, .d .nilf, .nilf, []⟩), (30, ⟨.slice 9, 1, 24, .nils 1, .list 1 [], []⟩), (31, ⟨.slice 123, 1, 24, .nils 3, .list 3 [], []⟩), (32, ⟨.slice 125, 1, 24, .nils 3, .list 3 [], []⟩), (33, ⟨.struct [(0, 1), (1, 1), (2, 1), (3, 1)], 4, 88, .agg [.d (.str []), .nils 1, .nils 3, .nils 3], .agg [.str [], .list 1 [], .list 3 [], .list 3 []], []⟩), (34, ⟨.struct [(0, 1), (1, 1), (2, 1), (3, 1)], 4, 88, .agg [.d (.str []), .nils 1, .nils 3, .nils 3], .agg [.str [], .list 1 [], .list 3 [], .list 3 []], []⟩), (35, ⟨.func, 1, 8, .d .nilf, .nilf, []⟩), (36, ⟨.func, 1, 8, .d .nilf, .nilf, []⟩), (37, ⟨.func, 1, 8, .d .nilf, .nilf, []⟩), (38, ⟨.func, 1, 8, .d .nilf, .nilf, []⟩), (39, ⟨.func, 1, 8, .d .nilf, .nilf, []⟩), (40, ⟨.slice 4, 1, 24, .nils 1, .list 1 [], []⟩), (41, ⟨.map 9 3, 1, 8, .d .nilm, .nilm, []⟩), (42, ⟨.func, 1, 8, .d .nilf, .nilf, []⟩), (44, ⟨.func, 1, 8, .d .nilf, .nilf, []⟩), (45, ⟨.func, 1, 8, .d .nilf, .nilf, []⟩), (46, ⟨.func, 1, 8, .d .nilf, .nilf, []⟩), (47, ⟨.func, 1, 8, .d .nilf, .nilf, []⟩), (48, ⟨.func, 1, 8, .d .nilf, .nilf, []⟩), (49, ⟨.map 9 4, 1, 8, .d .nilm, .nilm, []⟩), (50, ⟨.func, 1, 8, .d .nilf, .nilf, []⟩), (51, ⟨.func, 1, 8, .d .nilf, .nilf, []⟩), (52, ⟨.func, 1, 8, .d .nilf, .nilf, []⟩), (53, ⟨.map 3 4, 1, 8, .d .nilm, .nilm, []⟩), (54, ⟨.func, 1, 8, .d .nilf, .nilf, []⟩), (55, ⟨.func, 1, 8, .d .nilf, .nilf, []⟩), (56, ⟨.func, 1, 8, .d .nilf, .nilf, []⟩), (57, ⟨.func, 1, 8, .d .nilf, .nilf, []⟩), (58, ⟨.func, 1, 8, .d .nilf, .nilf, []⟩), (59, ⟨.func, 1, 8, .d .nilf, .nilf, []⟩), (60, ⟨.func, 1, 8, .d .nilf, .nilf, []⟩), (61, ⟨.func, 1, 8, .d .nilf, .nilf, []⟩), (63, ⟨.func, 1, 8, .d .nilf, .nilf, []⟩), (64, ⟨.func, 1, 8, .d .nilf, .nilf, []⟩), (65, ⟨.func, 1, 8, .d .nilf, .nilf, []⟩), (66, ⟨.func, 1, 8, .d .nilf, .nilf, []⟩), (67, ⟨.func, 1, 8, .d .nilf, .nilf, []⟩), (68, ⟨.func, 1, 8, .d .nilf, .nilf, []⟩), (69, ⟨.func, 1, 8, .d .nilf, .nilf, []⟩), (70, ⟨.int .u64, 1, 8, .d (.int .u64 0), .int .u64 0, []⟩), (71, ⟨.func, 1, 8, .d .nilf, .nilf, []⟩), (72, ⟨.func, 1, 8, .d .nilf, .nilf, []⟩), (73, ⟨.func, 1, 8, .d .nilf, .nilf, []⟩), (74, ⟨.int .i64, 1, 8, .d (.int .i64 0), .int .i64 0, []⟩), (76, ⟨.func, 1, 8, .d .nilf, .nilf, []⟩), (77, ⟨.func, 1, 8, .d .nilf, .nilf, []⟩), (78, ⟨.func, 1, 8, .d .nilf, .nilf, []⟩), (79, ⟨.func, 1, 8, .d .nilf, .nilf, []⟩), (80, ⟨.func, 1, 8, .d .nilf, .nilf, []⟩), (81, ⟨.func, 1, 8, .d .nilf, .nilf, []⟩), (82, ⟨.int .u32, 1, 4, .d (.int .u32 0), .int .u32 0, []⟩), (83, ⟨.func, 1, 8, .d .nilf, .nilf, []⟩), (84, ⟨.int .u64, 1, 8, .d (.int .u64 0), .int .u64 0, []⟩), (85, ⟨.func, 1, 8, .d .nilf, .nilf, []⟩), (86, ⟨.func, 1, 8, .d .nilf, .nilf, []⟩), (87, ⟨.func, 1, 8, .d .nilf, .nilf, []⟩), (88, ⟨.func, 1, 8, .d .nilf, .nilf, []⟩), (89, ⟨.func, 1, 8, .d .nilf, .nilf, []⟩), (90, ⟨.func, 1, 8, .d .nilf, .nilf, []⟩), (91, ⟨.int .u64, 1, 8, .d (.int .u64 0), .int .u64 0, []⟩), (92, ⟨.func, 1, 8, .d .nilf, .nilf, []⟩), (93, ⟨.func, 1, 8, .d .nilf, .nilf, []⟩), (94, ⟨.func, 1, 8, .d .nilf, .nilf, []⟩), (95, ⟨.ptr 3, 1, 8, .d .nilp, .nilp, []⟩), (96, ⟨.func, 1, 8, .d .nilf, .nilf, []⟩), (97, ⟨.func, 1, 8, .d .nilf, .nilf, []⟩), (98, ⟨.func, 1, 8, .d .nilf, .nilf, []⟩), (99, ⟨.ptr 91, 1, 8, .d .nilp, .nilp, []⟩), (101, ⟨.func, 1, 8, .d .nilf, .nilf, []⟩), (102, ⟨.func, 1, 8, .d .nilf, .nilf, []⟩), (103, ⟨.func, 1, 8, .d .nilf, .nilf, []⟩), (109, ⟨.func, 1, 8, .d .nilf, .nilf, []⟩), (118, ⟨.slice 128, 1, 24, .nils 3, .list 3 [], []⟩), (119, ⟨.slice 128, 1, 24, .nils 3, .list 3 [], []⟩), (120, ⟨.slice 130, 1, 24, .nils 8, .list 8 [], []⟩), (121, ⟨.slice 130, 1, 24, .nils 8, .list 8 [], []⟩), (122, ⟨.struct [(0, 1), (1, 1), (2, 1)], 3, 64, .agg [.d (.str []), .nils 3, .nils 8], .agg [.str [], .list 3 [], .list 8 []], []⟩), (123, ⟨.struct [(0, 1), (1, 1), (2, 1)], 3, 64, .agg [.d (.str []), .nils 3, .nils 8], .agg [.str [], .list 3 [], .list 8 []], []⟩), (124, ⟨.struct [(0, 1), (1, 1), (2, 1)], 3, 24, .d (.agg [.int .i64 0, .int .i64 0, .bool false]), .agg [.int .i64 0, .int .i64 0, .bool false], [.int .i64, .int .i64, .bool]⟩), (125, ⟨.struct [(0, 1), (1, 1), (2, 1)], 3, 24, .d (.agg [.int .i64 0, .int .i64 0, .bool false]), .agg [.int .i64 0, .int .i64 0, .bool false], [.int .i64, .int .i64, .bool]⟩), (127, ⟨.struct [(0, 1), (1, 1), (2, 1)], 3, 32, .d (.agg [.int .i64 0, .str [], .int .i64 0]), .agg [.int .i64 0, .str [], .int .i64 0], [.int .i64, .str, .int .i64]⟩), (128, ⟨.struct [(0, 1), (1, 1), (2, 1)], 3, 32, .d (.agg [.int .i64 0, .str [], .int .i64 0]), .agg [.int .i64 0, .str [], .int .i64 0], [.int .i64, .str, .int .i64]⟩), (129, ⟨.struct [(0, 1), (1, 1), (2, 1), (3, 1), (4, 1), (5, 1), (6, 1), (7, 1)], 8, 120, .agg [.d (.int .i64 0), .d (.str []), .d (.str []), .d (.str []), .d (.int .i64 0), .d (.int .i64 0), .nils 3, .nils 3], .agg [.int .i64 0, .str [], .str [], .str [], .int .i64 0, .int .i64 0, .list 3 [], .list 3 []], []⟩), (130, ⟨.struct [(0, 1), (1, 1), (2, 1), (3, 1), (4, 1), (5, 1), (6, 1), (7, 1)], 8, 120, .agg [.d (.int .i64 0), .d (.str []), .d (.str []), .d (.str []), .d (.int .i64 0), .d (.int .i64 0), .nils 3, .nils 3], .agg [.int .i64 0, .str [], .str [], .str [], .int .i64 0, .int .i64 0, .list 3 [], .list 3 []], []⟩)]
def tab : Nat → TI := lkT tt
theorem Gx : tab 3 = ⟨.int .i64, 1, 8, .d (.int .i64 0), .int .i64 0, []⟩ := rfl
theorem Hd : tab 4 = ⟨.bool, 1, 1, .d (.bool false), .bool false, []⟩ := rfl
theorem Hb : tab 9 = ⟨.str, 1, 16, .d (.str []), .str [], []⟩ := rfl
theorem Gq : tab 22 = ⟨.slice 34, 1, 24, .nils 4, .list 4 [], []⟩ := rfl
theorem Hi : tab 25 = ⟨.slice 3, 1, 24, .nils 1, .list 1 [], []⟩ := rfl
theorem Nx : tab 26 = ⟨.int .i64, 1, 8, .d (.int .i64 0), .int .i64 0, []⟩ := rfl
theorem Gy : tab 30 = ⟨.slice 9, 1, 24, .nils 1, .list 1 [], []⟩ := rfl
theorem Gp : tab 34 = ⟨.struct [(0, 1), (1, 1), (2, 1), (3, 1)], 4, 88, .agg [.d (.str []), .nils 1, .nils 3, .nils 3], .agg [.str [], .list 1 [], .list 3 [], .list 3 []], []⟩ := rfl
theorem Nl : tab 40 = ⟨.slice 4, 1, 24, .nils 1, .list 1 [], []⟩ := rfl
theorem Pg : tab 41 = ⟨.map 9 3, 1, 8, .d .nilm, .nilm, []⟩ := rfl
theorem A5 : tab 49 = ⟨.map 9 4, 1, 8, .d .nilm, .nilm, []⟩ := rfl
theorem Ax : tab 51 = ⟨.func, 1, 8, .d .nilf, .nilf, []⟩ := rfl
theorem Sn : tab 53 = ⟨.map 3 4, 1, 8, .d .nilm, .nilm, []⟩ := rfl
theorem tab64 : tab 64 = ⟨.func, 1, 8, .d .nilf, .nilf, []⟩ := rfl
theorem P8 : Pm Try.prog tab := tabOk_of (by kernel_rfl)
theorem Ny : Try.prog.follows .mixedOrders = true := by kernel_rfl
abbrev Lo (n : Nat) : Prop := n ≤ 9223372036854775807
theorem Ok {p : Nat → Prop} {k : Nat} (h : ∀ j, j < k → p j) (hk : p k) : ∀ j, j < k + 1 → p j := fun j hj => by
  rcases Nat.lt_or_ge j k with h1 | h1
  · exact h j h1
  · have : j = k := by omega
    exact this ▸ hk
def inB (l : List Int) (n : Int) : Bool := l.any fun x => x == n
def G6 : Con := con2 (fun (l : Sl Int) (_ : Int) => Lo l.l.length) (fun l n => inB l.l n)
noncomputable def Ex : Ctx := ⟨tab, lkC [], 60, lkB [], [], false⟩
theorem Ao : Ex.τ = tab := rfl
theorem Aq : Ex.Γ = lkC [] := rfl
theorem Ap : Ex.dp = 60 := rfl
theorem Ar : Ex.Δ = lkB [] := rfl
theorem An : Ex.cuts = [] := rfl
theorem Al : Ex.wr = false := rfl
theorem I5 : Ck Try.prog (18, G6) := by
  refine ⟨Hh Try.func18 (by kernel_rfl) rfl, ?_⟩
  have K : Mj Try.prog Ex := Nj P8 Ny (by simp) (by simp)
  obtain ⟨c, hc⟩ : ∃ c, Try.f18.body = some c := ⟨_, rfl⟩
  refine Mi K Try.func18 hc [.tmp 4] rfl 18 rfl (fun cvs hpre => ?_)
  change G6.pre cvs at hpre
  unfold G6 at hpre
  obtain ⟨⟨l⟩, n, rfl, hl⟩ := Lw hpre
  simp only at hl
  simp only [Try.f18, Option.some.injEq] at hc
  subst hc
  (sym =>
   simp [Ao,Aq,Ap,Ar,An,Al,G6.eq_def,Za,Zb,Zc,Ze,Zf,Zg,Zn,Zo,Zp,Zq,Zr,Zs,Zv,Zy,Z5,Z9,Qa,Qb,Qf,Qj,Qk,Ql,Qm,Qn,Qo,Qq,Qw,Qx,Qz,Q3,Q5,Ja,Jc,Jd,Je,Jf,Jg,Jn,Js,Jt,Ju,Jv,Jw,Jz,J0,Xd,Xe,Xf,Xg,Xh,Xi,Xj,Xk,Xl,Xm,Xn,Xo,Xp,Xs,Xu,Xv,Xw,Xx,Xy,Xz,X0,X1,X2,X3,X4,X5,X6,X7,X8,X9,Wa,Wb,Wc,Wf,Wg,Wh,Wi,Wj,Wl,Wm,Wn,Wo,Wp,Wq,Wr,Ws,Wt,Wu,Wv,Ww,Wx,Wy,Wz,W0,W3,W4,W5,W6,W7,W8,W9,Ya,Yb,Yc,Yi,Yj,Yk,Yl,Ym,Yn,Yo,Yp,Yq,Yr,Ys,Yt,Yu,Yv,Yw,Yx,Yy,Yz,Y0,Y1,Y2,Y3,Y4,Y5,Y6,Y7,Y8,Y9,Va,Vb,Vc,Vd,Ve,Vf,Vg,Vh,Vi,Vj,Vk,Vl,Vm,Vn,Vo,Vp,Vq,Vr,Vs,Vt,Vu,Vv,Vw,Vx,Vy,Vz,V0,V1,V2,V3,V4,V5,V6,V7,V8,V9,Ua,Ub,Uc,Ud,Ue,Uf,Ug,Uh,Ui,Uo,Up,Us,Ut,Uu,Uv,Uw,Ux,Uy,Uz,U0,U1,U2,U3,U4,U5,U6,U7,U8,U9,Ka,Kb,Kc,Kd,Ke,Kf,Kg,Kh,Ki,Kj,Kk,Kl,Km,Kn,Ko,Kq,Kr,Ks,Kt,Ku,K1,K2,K3,K4,K5,K6,K7,Ga,Gx,Hi]
   tactic =>
    try simp only [Gl] at *
    try simp only [nc2] at *
    try simp (maxSteps := 4000000) only [G4]
    repeat' (first | with_reducible assumption | with_reducible refine And.intro ?_ ?_ | intro _ | omega | (rw [Gb]; omega))
    refine Ha [4, 6, 7, 8, 9, 10, 11, 12, 13, 14, 15, 16, 17] (fun k : Nat => [(5, .d (.int .i64 k))]) (fun k : Nat => []) (fun k : Nat => k ≤ l.length ∧ ∀ j, j < k → l.getD j 0 ≠ n) (fun k : Nat => l.length - k) 0 ?_ ?_ ?_
    · simp
    · ((try simp only [Gd, Gj, Gi, Gs, upd, Gt, G5, Hn, Nat.reduceDiv, Nat.reduceMod, Nat.reduceMul, Nat.reduceAdd, Nat.reduceEqDiff, List.set_cons_zero, List.set_cons_succ, if_true, if_false, reduceIte]); (first | refine Wk.of_fl ?_ | skip); simp only [Wk, wkK, Ht, wkT, wk1, AV.kept, keptAll, wkO, lk, Ge, and_true, true_and, and_self, Nat.reduceEqDiff, Nat.reduceLeDiff, if_true, if_false, reduceIte, reduceCtorEq, Option.isSome, false_implies]; try simp [Wk, wkK, wkT, wk1, AV.kept, keptAll, wkO, lk, Ge])
    rintro k ⟨hk, hno⟩
    rcases Hg k l.length with ⟨hlt, hlb⟩ | ⟨hlt, hlb⟩
    · have q1 := Hp (0 : Int) hlt
      have hst : l.getD k 0 ≠ n → ∀ j, j < k + 1 → l.getD j 0 ≠ n := by
        intro h j hj
        by_cases e : j = k
        · subst e; exact h
        · exact hno j (by omega)
      have hit : (l.getD k 0 == n) = true → inB l n = true := fun h => any_at 0 k hlt h
      obtain ⟨x, hx⟩ : ∃ x, l.getD k 0 = x := ⟨_, rfl⟩
      rw [hx] at q1 hst hit
      cases hb : (x == n) with
      | true =>
        have hr := hit hb
        (sym =>
         simp [hlb,q1,hb,hr,Ao,Aq,Ap,Ar,An,Al,G6.eq_def,Za,Zb,Zc,Ze,Zf,Zg,Zn,Zo,Zp,Zq,Zr,Zs,Zv,Zy,Z5,Z9,Qa,Qb,Qf,Qj,Qk,Ql,Qm,Qn,Qo,Qq,Qw,Qx,Qz,Q3,Q5,Ja,Jc,Jd,Je,Jf,Jg,Jn,Js,Jt,Ju,Jv,Jw,Jz,J0,Xd,Xe,Xf,Xg,Xh,Xi,Xj,Xk,Xl,Xm,Xn,Xo,Xp,Xs,Xu,Xv,Xw,Xx,Xy,Xz,X0,X1,X2,X3,X4,X5,X6,X7,X8,X9,Wa,Wb,Wc,Wf,Wg,Wh,Wi,Wj,Wl,Wm,Wn,Wo,Wp,Wq,Wr,Ws,Wt,Wu,Wv,Ww,Wx,Wy,Wz,W0,W3,W4,W5,W6,W7,W8,W9,Ya,Yb,Yc,Yi,Yj,Yk,Yl,Ym,Yn,Yo,Yp,Yq,Yr,Ys,Yt,Yu,Yv,Yw,Yx,Yy,Yz,Y0,Y1,Y2,Y3,Y4,Y5,Y6,Y7,Y8,Y9,Va,Vb,Vc,Vd,Ve,Vf,Vg,Vh,Vi,Vj,Vk,Vl,Vm,Vn,Vo,Vp,Vq,Vr,Vs,Vt,Vu,Vv,Vw,Vx,Vy,Vz,V0,V1,V2,V3,V4,V5,V6,V7,V8,V9,Ua,Ub,Uc,Ud,Ue,Uf,Ug,Uh,Ui,Uo,Up,Us,Ut,Uu,Uv,Uw,Ux,Uy,Uz,U0,U1,U2,U3,U4,U5,U6,U7,U8,U9,Ka,Kb,Kc,Kd,Ke,Kf,Kg,Kh,Ki,Kj,Kk,Kl,Km,Kn,Ko,Kq,Kr,Ks,Kt,Ku,K1,K2,K3,K4,K5,K6,K7,Ga,Gx,Hi]
         tactic =>
          try simp only [Gl] at *
          try simp only [nc2] at *
          try simp (maxSteps := 4000000) only [hlb,q1,hb,hr,G4]
          repeat' (first | with_reducible assumption | with_reducible refine And.intro ?_ ?_ | intro _ | omega | (rw [Gb]; omega))
          all_goals first
            | (with_reducible refine G7 ?_; kernel_rfl)
            | omega
            | rfl
            | skip)
      | false =>
        have h2 := hst (by simpa using hb)
        (sym =>
         simp [hlb,q1,hb,Ao,Aq,Ap,Ar,An,Al,G6.eq_def,Za,Zb,Zc,Ze,Zf,Zg,Zn,Zo,Zp,Zq,Zr,Zs,Zv,Zy,Z5,Z9,Qa,Qb,Qf,Qj,Qk,Ql,Qm,Qn,Qo,Qq,Qw,Qx,Qz,Q3,Q5,Ja,Jc,Jd,Je,Jf,Jg,Jn,Js,Jt,Ju,Jv,Jw,Jz,J0,Xd,Xe,Xf,Xg,Xh,Xi,Xj,Xk,Xl,Xm,Xn,Xo,Xp,Xs,Xu,Xv,Xw,Xx,Xy,Xz,X0,X1,X2,X3,X4,X5,X6,X7,X8,X9,Wa,Wb,Wc,Wf,Wg,Wh,Wi,Wj,Wl,Wm,Wn,Wo,Wp,Wq,Wr,Ws,Wt,Wu,Wv,Ww,Wx,Wy,Wz,W0,W3,W4,W5,W6,W7,W8,W9,Ya,Yb,Yc,Yi,Yj,Yk,Yl,Ym,Yn,Yo,Yp,Yq,Yr,Ys,Yt,Yu,Yv,Yw,Yx,Yy,Yz,Y0,Y1,Y2,Y3,Y4,Y5,Y6,Y7,Y8,Y9,Va,Vb,Vc,Vd,Ve,Vf,Vg,Vh,Vi,Vj,Vk,Vl,Vm,Vn,Vo,Vp,Vq,Vr,Vs,Vt,Vu,Vv,Vw,Vx,Vy,Vz,V0,V1,V2,V3,V4,V5,V6,V7,V8,V9,Ua,Ub,Uc,Ud,Ue,Uf,Ug,Uh,Ui,Uo,Up,Us,Ut,Uu,Uv,Uw,Ux,Uy,Uz,U0,U1,U2,U3,U4,U5,U6,U7,U8,U9,Ka,Kb,Kc,Kd,Ke,Kf,Kg,Kh,Ki,Kj,Kk,Kl,Km,Kn,Ko,Kq,Kr,Ks,Kt,Ku,K1,K2,K3,K4,K5,K6,K7,Ga,Gx,Hi]
         tactic =>
          try simp only [Gl] at *
          try simp only [nc2] at *
          try simp (maxSteps := 4000000) only [hlb,q1,hb,G4]
          repeat' (first | with_reducible assumption | with_reducible refine And.intro ?_ ?_ | intro _ | omega | (rw [Gb]; omega))
          all_goals first
            | (with_reducible refine G7 ?_; kernel_rfl)
            | omega
            | exact ⟨k + 1, by ((try simp only [Gd, Gj, Gi, Gs, upd, Gt, G5, Hn, Nat.reduceDiv, Nat.reduceMod, Nat.reduceMul, Nat.reduceAdd, Nat.reduceEqDiff, List.set_cons_zero, List.set_cons_succ, if_true, if_false, reduceIte]); (first | refine Wk.of_fl ?_ | skip); simp only [Wk, wkK, Ht, wkT, wk1, AV.kept, keptAll, wkO, lk, Ge, and_true, true_and, and_self, Nat.reduceEqDiff, Nat.reduceLeDiff, if_true, if_false, reduceIte, reduceCtorEq, Option.isSome, false_implies]; try simp [Wk, wkK, wkT, wk1, AV.kept, keptAll, wkO, lk, Ge]), by omega, h2, by omega⟩
            | skip)
    · have hr : inB l n = false := any_not 0 fun j hj => beq_eq_false_iff_ne.2 (hno j (by omega))
      (sym =>
       simp [hlb,hr,Ao,Aq,Ap,Ar,An,Al,G6.eq_def,Za,Zb,Zc,Ze,Zf,Zg,Zn,Zo,Zp,Zq,Zr,Zs,Zv,Zy,Z5,Z9,Qa,Qb,Qf,Qj,Qk,Ql,Qm,Qn,Qo,Qq,Qw,Qx,Qz,Q3,Q5,Ja,Jc,Jd,Je,Jf,Jg,Jn,Js,Jt,Ju,Jv,Jw,Jz,J0,Xd,Xe,Xf,Xg,Xh,Xi,Xj,Xk,Xl,Xm,Xn,Xo,Xp,Xs,Xu,Xv,Xw,Xx,Xy,Xz,X0,X1,X2,X3,X4,X5,X6,X7,X8,X9,Wa,Wb,Wc,Wf,Wg,Wh,Wi,Wj,Wl,Wm,Wn,Wo,Wp,Wq,Wr,Ws,Wt,Wu,Wv,Ww,Wx,Wy,Wz,W0,W3,W4,W5,W6,W7,W8,W9,Ya,Yb,Yc,Yi,Yj,Yk,Yl,Ym,Yn,Yo,Yp,Yq,Yr,Ys,Yt,Yu,Yv,Yw,Yx,Yy,Yz,Y0,Y1,Y2,Y3,Y4,Y5,Y6,Y7,Y8,Y9,Va,Vb,Vc,Vd,Ve,Vf,Vg,Vh,Vi,Vj,Vk,Vl,Vm,Vn,Vo,Vp,Vq,Vr,Vs,Vt,Vu,Vv,Vw,Vx,Vy,Vz,V0,V1,V2,V3,V4,V5,V6,V7,V8,V9,Ua,Ub,Uc,Ud,Ue,Uf,Ug,Uh,Ui,Uo,Up,Us,Ut,Uu,Uv,Uw,Ux,Uy,Uz,U0,U1,U2,U3,U4,U5,U6,U7,U8,U9,Ka,Kb,Kc,Kd,Ke,Kf,Kg,Kh,Ki,Kj,Kk,Kl,Km,Kn,Ko,Kq,Kr,Ks,Kt,Ku,K1,K2,K3,K4,K5,K6,K7,Ga,Gx,Hi]))
def G3 : Con := con2 (fun (a b : Sl Int) => Lo a.l.length ∧ Lo b.l.length) (fun a b => a.l == b.l)
noncomputable def Tp : Ctx := ⟨tab, lkC [], 60, lkB [], [], false⟩
theorem T9 : Tp.τ = tab := rfl
theorem Cb : Tp.Γ = lkC [] := rfl
theorem Ca : Tp.dp = 60 := rfl
theorem Cc : Tp.Δ = lkB [] := rfl
theorem T8 : Tp.cuts = [] := rfl
theorem T7 : Tp.wr = false := rfl
theorem Fh : Ck Try.prog (14, G3) := by
  refine ⟨Hh Try.func14 (by kernel_rfl) rfl, ?_⟩
  have K : Mj Try.prog Tp := Nj P8 Ny (by simp) (by simp)
  obtain ⟨c, hc⟩ : ∃ c, Try.f14.body = some c := ⟨_, rfl⟩
  refine Mi K Try.func14 hc [.tmp 4] rfl 26 rfl (fun cvs hpre => ?_)
  change G3.pre cvs at hpre
  unfold G3 at hpre
  obtain ⟨⟨a⟩, ⟨b⟩, rfl, ha, hb⟩ := Lw hpre
  simp only at ha hb
  obtain ⟨R, hR⟩ : ∃ R, (a == b) = R := ⟨_, rfl⟩
  by_cases hlen : a.length = b.length
  case neg =>
    have hne : ((a.length : Int) != (b.length : Int)) = true := by rw [bne_iff_ne]; omega
    have hr : (a == b) = false := by rw [beq_eq_false_iff_ne]; intro e; exact hlen (by rw [e])
    simp only [Try.f14, Option.some.injEq] at hc
    subst hc
    (sym =>
     simp [hne,hr,T9,Cb,Ca,Cc,T8,T7,G3.eq_def,Za,Zb,Zc,Ze,Zf,Zg,Zh,Zi,Zj,Zk,Zl,Zm,Zn,Zo,Zp,Zq,Zr,Zs,Zv,Zy,Z5,Z9,Qa,Qb,Qf,Qj,Qk,Ql,Qm,Qn,Qo,Qp,Qq,Qw,Qx,Qz,Q0,Q1,Q3,Q5,Ja,Jc,Jd,Je,Jf,Jg,Jn,Js,Jt,Ju,Jv,Jw,Jz,J0,Xd,Xe,Xf,Xg,Xh,Xi,Xj,Xk,Xl,Xm,Xn,Xo,Xp,Xs,Xu,Xv,Xw,Xx,Xy,Xz,X0,X1,X2,X3,X4,X5,X6,X7,X8,X9,Wa,Wb,Wc,Wd,We,Wf,Wg,Wh,Wi,Wj,Wl,Wm,Wn,Wo,Wp,Wq,Wr,Ws,Wt,Wu,Wv,Ww,Wx,Wy,Wz,W0,W3,W4,W5,W6,W7,W8,W9,Ya,Yb,Yc,Yi,Yj,Yk,Yl,Ym,Yn,Yo,Yp,Yq,Yr,Ys,Yt,Yu,Yv,Yw,Yx,Yy,Yz,Y0,Y1,Y2,Y3,Y4,Y5,Y6,Y7,Y8,Y9,Va,Vb,Vc,Vd,Ve,Vf,Vg,Vh,Vi,Vj,Vk,Vl,Vm,Vn,Vo,Vp,Vq,Vr,Vs,Vt,Vu,Vv,Vw,Vx,Vy,Vz,V0,V1,V2,V3,V4,V5,V6,V7,V8,V9,Ua,Ub,Uc,Ud,Ue,Uf,Ug,Uh,Ui,Uo,Up,Us,Ut,Uu,Uv,Uw,Ux,Uy,Uz,U0,U1,U2,U3,U4,U5,U6,U7,U8,U9,Ka,Kb,Kc,Kd,Ke,Kf,Kg,Kh,Ki,Kj,Kk,Kl,Km,Kn,Ko,Kq,Kr,Ks,Kt,Ku,K1,K2,K3,K4,K5,K6,K7,Ga,Gx,Hi])
  have hne : ((a.length : Int) != (b.length : Int)) = false := by rw [hlen, bne_self_eq_false]
  simp only [Try.f14, Option.some.injEq] at hc
  subst hc
  (sym =>
   simp [hne,T9,Cb,Ca,Cc,T8,T7,G3.eq_def,Za,Zb,Zc,Ze,Zf,Zg,Zh,Zi,Zj,Zk,Zl,Zm,Zn,Zo,Zp,Zq,Zr,Zs,Zv,Zy,Z5,Z9,Qa,Qb,Qf,Qj,Qk,Ql,Qm,Qn,Qo,Qp,Qq,Qw,Qx,Qz,Q0,Q1,Q3,Q5,Ja,Jc,Jd,Je,Jf,Jg,Jn,Js,Jt,Ju,Jv,Jw,Jz,J0,Xd,Xe,Xf,Xg,Xh,Xi,Xj,Xk,Xl,Xm,Xn,Xo,Xp,Xs,Xu,Xv,Xw,Xx,Xy,Xz,X0,X1,X2,X3,X4,X5,X6,X7,X8,X9,Wa,Wb,Wc,Wd,We,Wf,Wg,Wh,Wi,Wj,Wl,Wm,Wn,Wo,Wp,Wq,Wr,Ws,Wt,Wu,Wv,Ww,Wx,Wy,Wz,W0,W3,W4,W5,W6,W7,W8,W9,Ya,Yb,Yc,Yi,Yj,Yk,Yl,Ym,Yn,Yo,Yp,Yq,Yr,Ys,Yt,Yu,Yv,Yw,Yx,Yy,Yz,Y0,Y1,Y2,Y3,Y4,Y5,Y6,Y7,Y8,Y9,Va,Vb,Vc,Vd,Ve,Vf,Vg,Vh,Vi,Vj,Vk,Vl,Vm,Vn,Vo,Vp,Vq,Vr,Vs,Vt,Vu,Vv,Vw,Vx,Vy,Vz,V0,V1,V2,V3,V4,V5,V6,V7,V8,V9,Ua,Ub,Uc,Ud,Ue,Uf,Ug,Uh,Ui,Uo,Up,Us,Ut,Uu,Uv,Uw,Ux,Uy,Uz,U0,U1,U2,U3,U4,U5,U6,U7,U8,U9,Ka,Kb,Kc,Kd,Ke,Kf,Kg,Kh,Ki,Kj,Kk,Kl,Km,Kn,Ko,Kq,Kr,Ks,Kt,Ku,K1,K2,K3,K4,K5,K6,K7,Ga,Gx,Hi]
   tactic =>
    try simp only [Gl] at *
    try simp only [nc2] at *
    try simp (maxSteps := 4000000) only [hne,G4]
    repeat' (first | with_reducible assumption | with_reducible refine And.intro ?_ ?_ | intro _ | omega | (rw [Gb]; omega))
    refine Ha [4, 11, 12, 13, 14, 15, 16, 17, 18, 19, 20, 21, 22, 23, 24, 25] (fun k : Nat => [(5, .d (.int .i64 k))]) (fun k : Nat => []) (fun k : Nat => k ≤ a.length ∧ ∀ j, j < k → a.getD j 0 = b.getD j 0) (fun k : Nat => a.length - k) 0 ?_ ?_ ?_
    · simp
    · ((try simp only [Gd, Gj, Gi, Gs, upd, Gt, G5, Hn, Nat.reduceDiv, Nat.reduceMod, Nat.reduceMul, Nat.reduceAdd, Nat.reduceEqDiff, List.set_cons_zero, List.set_cons_succ, if_true, if_false, reduceIte]); (first | refine Wk.of_fl ?_ | skip); simp only [Wk, wkK, Ht, wkT, wk1, AV.kept, keptAll, wkO, lk, Ge, and_true, true_and, and_self, Nat.reduceEqDiff, Nat.reduceLeDiff, if_true, if_false, reduceIte, reduceCtorEq, Option.isSome, false_implies]; try simp [Wk, wkK, wkT, wk1, AV.kept, keptAll, wkO, lk, Ge])
    rintro k ⟨hk, hno⟩
    rcases Hg k a.length with ⟨hlt, hlb⟩ | ⟨hlt, hlb⟩
    · have q1 := Hp (0 : Int) hlt
      have q2 := Hp (0 : Int) (show k < b.length by omega)
      have hst : a.getD k 0 = b.getD k 0 → ∀ j, j < k + 1 → a.getD j 0 = b.getD j 0 := by
        intro h j hj
        by_cases e : j = k
        · subst e; exact h
        · exact hno j (by omega)
      have hbad : a.getD k 0 ≠ b.getD k 0 → (a == b) = false := by
        intro h
        rw [beq_eq_false_iff_ne]
        intro e
        exact h (by rw [e])
      obtain ⟨x, hx⟩ : ∃ x, a.getD k 0 = x := ⟨_, rfl⟩
      obtain ⟨y, hy⟩ : ∃ x, b.getD k 0 = x := ⟨_, rfl⟩
      rw [hx] at q1 hst hbad
      rw [hy] at q2 hst hbad
      cases hxy : (x != y) with
      | true =>
        have hr := hbad (by simpa using hxy)
        (sym =>
         simp [hlb,q1,q2,hxy,hr,T9,Cb,Ca,Cc,T8,T7,G3.eq_def,Za,Zb,Zc,Ze,Zf,Zg,Zh,Zi,Zj,Zk,Zl,Zm,Zn,Zo,Zp,Zq,Zr,Zs,Zv,Zy,Z5,Z9,Qa,Qb,Qf,Qj,Qk,Ql,Qm,Qn,Qo,Qp,Qq,Qw,Qx,Qz,Q0,Q1,Q3,Q5,Ja,Jc,Jd,Je,Jf,Jg,Jn,Js,Jt,Ju,Jv,Jw,Jz,J0,Xd,Xe,Xf,Xg,Xh,Xi,Xj,Xk,Xl,Xm,Xn,Xo,Xp,Xs,Xu,Xv,Xw,Xx,Xy,Xz,X0,X1,X2,X3,X4,X5,X6,X7,X8,X9,Wa,Wb,Wc,Wd,We,Wf,Wg,Wh,Wi,Wj,Wl,Wm,Wn,Wo,Wp,Wq,Wr,Ws,Wt,Wu,Wv,Ww,Wx,Wy,Wz,W0,W3,W4,W5,W6,W7,W8,W9,Ya,Yb,Yc,Yi,Yj,Yk,Yl,Ym,Yn,Yo,Yp,Yq,Yr,Ys,Yt,Yu,Yv,Yw,Yx,Yy,Yz,Y0,Y1,Y2,Y3,Y4,Y5,Y6,Y7,Y8,Y9,Va,Vb,Vc,Vd,Ve,Vf,Vg,Vh,Vi,Vj,Vk,Vl,Vm,Vn,Vo,Vp,Vq,Vr,Vs,Vt,Vu,Vv,Vw,Vx,Vy,Vz,V0,V1,V2,V3,V4,V5,V6,V7,V8,V9,Ua,Ub,Uc,Ud,Ue,Uf,Ug,Uh,Ui,Uo,Up,Us,Ut,Uu,Uv,Uw,Ux,Uy,Uz,U0,U1,U2,U3,U4,U5,U6,U7,U8,U9,Ka,Kb,Kc,Kd,Ke,Kf,Kg,Kh,Ki,Kj,Kk,Kl,Km,Kn,Ko,Kq,Kr,Ks,Kt,Ku,K1,K2,K3,K4,K5,K6,K7,Ga,Gx,Hi]
         tactic =>
          try simp only [Gl] at *
          try simp only [nc2] at *
          try simp (maxSteps := 4000000) only [hlb,q1,q2,hxy,hr,G4]
          repeat' (first | with_reducible assumption | with_reducible refine And.intro ?_ ?_ | intro _ | omega | (rw [Gb]; omega))
          all_goals first
            | (with_reducible refine G7 ?_; kernel_rfl)
            | omega
            | rfl
            | skip)
      | false =>
        have h2 := hst (by simpa using hxy)
        (sym =>
         simp [hlb,q1,q2,hxy,T9,Cb,Ca,Cc,T8,T7,G3.eq_def,Za,Zb,Zc,Ze,Zf,Zg,Zh,Zi,Zj,Zk,Zl,Zm,Zn,Zo,Zp,Zq,Zr,Zs,Zv,Zy,Z5,Z9,Qa,Qb,Qf,Qj,Qk,Ql,Qm,Qn,Qo,Qp,Qq,Qw,Qx,Qz,Q0,Q1,Q3,Q5,Ja,Jc,Jd,Je,Jf,Jg,Jn,Js,Jt,Ju,Jv,Jw,Jz,J0,Xd,Xe,Xf,Xg,Xh,Xi,Xj,Xk,Xl,Xm,Xn,Xo,Xp,Xs,Xu,Xv,Xw,Xx,Xy,Xz,X0,X1,X2,X3,X4,X5,X6,X7,X8,X9,Wa,Wb,Wc,Wd,We,Wf,Wg,Wh,Wi,Wj,Wl,Wm,Wn,Wo,Wp,Wq,Wr,Ws,Wt,Wu,Wv,Ww,Wx,Wy,Wz,W0,W3,W4,W5,W6,W7,W8,W9,Ya,Yb,Yc,Yi,Yj,Yk,Yl,Ym,Yn,Yo,Yp,Yq,Yr,Ys,Yt,Yu,Yv,Yw,Yx,Yy,Yz,Y0,Y1,Y2,Y3,Y4,Y5,Y6,Y7,Y8,Y9,Va,Vb,Vc,Vd,Ve,Vf,Vg,Vh,Vi,Vj,Vk,Vl,Vm,Vn,Vo,Vp,Vq,Vr,Vs,Vt,Vu,Vv,Vw,Vx,Vy,Vz,V0,V1,V2,V3,V4,V5,V6,V7,V8,V9,Ua,Ub,Uc,Ud,Ue,Uf,Ug,Uh,Ui,Uo,Up,Us,Ut,Uu,Uv,Uw,Ux,Uy,Uz,U0,U1,U2,U3,U4,U5,U6,U7,U8,U9,Ka,Kb,Kc,Kd,Ke,Kf,Kg,Kh,Ki,Kj,Kk,Kl,Km,Kn,Ko,Kq,Kr,Ks,Kt,Ku,K1,K2,K3,K4,K5,K6,K7,Ga,Gx,Hi]
         tactic =>
          try simp only [Gl] at *
          try simp only [nc2] at *
          try simp (maxSteps := 4000000) only [hlb,q1,q2,hxy,G4]
          repeat' (first | with_reducible assumption | with_reducible refine And.intro ?_ ?_ | intro _ | omega | (rw [Gb]; omega))
          all_goals first
            | (with_reducible refine G7 ?_; kernel_rfl)
            | omega
            | exact ⟨k + 1, by ((try simp only [Gd, Gj, Gi, Gs, upd, Gt, G5, Hn, Nat.reduceDiv, Nat.reduceMod, Nat.reduceMul, Nat.reduceAdd, Nat.reduceEqDiff, List.set_cons_zero, List.set_cons_succ, if_true, if_false, reduceIte]); (first | refine Wk.of_fl ?_ | skip); simp only [Wk, wkK, Ht, wkT, wk1, AV.kept, keptAll, wkO, lk, Ge, and_true, true_and, and_self, Nat.reduceEqDiff, Nat.reduceLeDiff, if_true, if_false, reduceIte, reduceCtorEq, Option.isSome, false_implies]; try simp [Wk, wkK, wkT, wk1, AV.kept, keptAll, wkO, lk, Ge]), by omega, h2, by omega⟩
            | skip)
    · have hr : (a == b) = true := by
        rw [beq_iff_eq]
        refine List.ext_getElem hlen fun j h1 h2 => ?_
        have := hno j (by omega)
        simpa [h1, h2] using this
      (sym =>
       simp [hlb,hr,T9,Cb,Ca,Cc,T8,T7,G3.eq_def,Za,Zb,Zc,Ze,Zf,Zg,Zh,Zi,Zj,Zk,Zl,Zm,Zn,Zo,Zp,Zq,Zr,Zs,Zv,Zy,Z5,Z9,Qa,Qb,Qf,Qj,Qk,Ql,Qm,Qn,Qo,Qp,Qq,Qw,Qx,Qz,Q0,Q1,Q3,Q5,Ja,Jc,Jd,Je,Jf,Jg,Jn,Js,Jt,Ju,Jv,Jw,Jz,J0,Xd,Xe,Xf,Xg,Xh,Xi,Xj,Xk,Xl,Xm,Xn,Xo,Xp,Xs,Xu,Xv,Xw,Xx,Xy,Xz,X0,X1,X2,X3,X4,X5,X6,X7,X8,X9,Wa,Wb,Wc,Wd,We,Wf,Wg,Wh,Wi,Wj,Wl,Wm,Wn,Wo,Wp,Wq,Wr,Ws,Wt,Wu,Wv,Ww,Wx,Wy,Wz,W0,W3,W4,W5,W6,W7,W8,W9,Ya,Yb,Yc,Yi,Yj,Yk,Yl,Ym,Yn,Yo,Yp,Yq,Yr,Ys,Yt,Yu,Yv,Yw,Yx,Yy,Yz,Y0,Y1,Y2,Y3,Y4,Y5,Y6,Y7,Y8,Y9,Va,Vb,Vc,Vd,Ve,Vf,Vg,Vh,Vi,Vj,Vk,Vl,Vm,Vn,Vo,Vp,Vq,Vr,Vs,Vt,Vu,Vv,Vw,Vx,Vy,Vz,V0,V1,V2,V3,V4,V5,V6,V7,V8,V9,Ua,Ub,Uc,Ud,Ue,Uf,Ug,Uh,Ui,Uo,Up,Us,Ut,Uu,Uv,Uw,Ux,Uy,Uz,U0,U1,U2,U3,U4,U5,U6,U7,U8,U9,Ka,Kb,Kc,Kd,Ke,Kf,Kg,Kh,Ki,Kj,Kk,Kl,Km,Kn,Ko,Kq,Kr,Ks,Kt,Ku,K1,K2,K3,K4,K5,K6,K7,Ga,Gx,Hi]))
structure Mod where
  name : List UInt8
  imps : List (List UInt8)
  defs : List D
  sites : List D
instance encMod : Enc Mod := ⟨fun a => .agg [.str a.name, .list 1 (a.imps.map enc), .list 3 a.defs, .list 3 a.sites], fun x => match x with
  | .agg [a, b, c, d] => ⟨a.s, b.l.map dec, c.l, d.l⟩
  | _ => ⟨[], [], [], []⟩, fun a => by
    obtain ⟨n, i, d, s⟩ := a
    simp only [D.s, D.l, List.map_map]
    have : (dec ∘ enc : List UInt8 → List UInt8) = id := funext fun x => Enc.dec_enc x
    rw [this, List.map_id]⟩
instance szMod : Sz Mod := ⟨4⟩
theorem szM : Sz.sz Mod = 4 := rfl
theorem Gg {m : Mod} : (enc m : D) = .agg [.str m.name, .list 1 (m.imps.map enc), .list 3 m.defs, .list 3 m.sites] := rfl
def m0 : Mod := ⟨[], [], [], []⟩
abbrev nm (l : List Mod) (k : Nat) : List UInt8 := (l.getD k m0).name
def Hr : List Mod → List UInt8 → Option Nat
  | [], _ => none
  | m :: l, s => if m.name = s then some 0 else (Hr l s).map (· + 1)
def Hm (l : List Mod) (s : List UInt8) : Int := match Hr l s with
  | some k => k
  | none => -1
theorem findR_at : ∀ {l : List Mod} {s : List UInt8} {k : Nat}, k < l.length → (∀ j, j < k → nm l j ≠ s) → nm l k = s → Hr l s = some k
  | [], s, k, h, _, _ => by simp at h
  | m :: l, s, 0, _, _, h => by
    simp only [nm, List.getD_cons_zero] at h
    simp [Hr,h]
  | m :: l, s, k + 1, h, hno, hk => by
    have h0 := hno 0 (by omega)
    simp only [nm, List.getD_cons_zero] at h0
    rw [Hr, if_neg h0, findR_at (k := k) (by simpa using h) (fun j hj => by
      have := hno (j + 1) (by omega)
      simpa [nm] using this) (by simpa [nm] using hk)]
    rfl
theorem findR_none : ∀ {l : List Mod} {s : List UInt8}, (∀ j, j < l.length → nm l j ≠ s) → Hr l s = none
  | [], s, _ => rfl
  | m :: l, s, hno => by
    have h0 := hno 0 (by simp)
    simp only [nm, List.getD_cons_zero] at h0
    rw [Hr, if_neg h0, findR_none fun j hj => by
      have := hno (j + 1) (by simpa using hj)
      simpa [nm] using this]
    rfl
theorem findZ_at {l : List Mod} {s : List UInt8} {k : Nat} (h : k < l.length) (hno : ∀ j, j < k → nm l j ≠ s) (hk : nm l k = s) : Hm l s = k := by
  rw [Hm, findR_at h hno hk]
theorem findZ_none {l : List Mod} {s : List UInt8} (hno : ∀ j, j < l.length → nm l j ≠ s) : Hm l s = -1 := by
  rw [Hm, findR_none hno]
def G9 : Con := con2 (fun (l : Sl Mod) (_ : List UInt8) => Lo l.l.length) (fun l s => Hm l.l s)
noncomputable def Cv : Ctx := ⟨tab, lkC [], 60, lkB [], [], false⟩
theorem Fr : Cv.τ = tab := rfl
theorem Ft : Cv.Γ = lkC [] := rfl
theorem Fs : Cv.dp = 60 := rfl
theorem Fu : Cv.Δ = lkB [] := rfl
theorem Fq : Cv.cuts = [] := rfl
theorem Fp : Cv.wr = false := rfl
theorem good_find8 : Ck Try.prog (28, G9) := by
  refine ⟨Hh Try.func28 (by kernel_rfl) rfl, ?_⟩
  have K : Mj Try.prog Cv := Nj P8 Ny (by simp) (by simp)
  obtain ⟨c, hc⟩ : ∃ c, Try.f28.body = some c := ⟨_, rfl⟩
  refine Mi K Try.func28 hc [.tmp 4] rfl 20 rfl (fun cvs hpre => ?_)
  change G9.pre cvs at hpre
  unfold G9 at hpre
  obtain ⟨⟨l⟩, s, rfl, hl⟩ := Lw hpre
  simp only at hl
  simp only [Try.f28, Option.some.injEq] at hc
  subst hc
  (sym =>
   simp [Fr,Ft,Fs,Fu,Fq,Fp,G9.eq_def,Za,Zb,Zc,Ze,Zf,Zg,Zn,Zo,Zp,Zq,Zr,Zs,Zv,Zx,Zy,Z5,Z9,Qa,Qb,Qf,Qj,Qk,Ql,Qm,Qn,Qo,Qq,Qw,Qx,Qz,Q3,Q5,Ja,Jc,Jd,Je,Jf,Jg,Jn,Js,Jt,Ju,Jv,Jw,Jz,J0,Xd,Xe,Xf,Xg,Xh,Xi,Xj,Xk,Xl,Xm,Xn,Xo,Xp,Xs,Xu,Xv,Xw,Xx,Xy,Xz,X0,X1,X2,X3,X4,X5,X6,X7,X8,X9,Wa,Wb,Wc,Wf,Wg,Wh,Wi,Wj,Wl,Wm,Wn,Wo,Wp,Wq,Wr,Ws,Wt,Wu,Wv,Ww,Wx,Wy,Wz,W0,W3,W4,W5,W6,W7,W8,W9,Ya,Yb,Yc,Yi,Yj,Yk,Yl,Ym,Yn,Yo,Yp,Yq,Yr,Ys,Yt,Yu,Yv,Yw,Yx,Yy,Yz,Y0,Y1,Y2,Y3,Y4,Y5,Y6,Y7,Y8,Y9,Va,Vb,Vc,Vd,Ve,Vf,Vg,Vh,Vi,Vj,Vk,Vl,Vm,Vn,Vo,Vp,Vq,Vr,Vs,Vt,Vu,Vv,Vw,Vx,Vy,Vz,V0,V1,V2,V3,V4,V5,V6,V7,V8,V9,Ua,Ub,Uc,Ud,Ue,Uf,Ug,Uh,Ui,Uo,Up,Us,Ut,Uu,Uv,Uw,Ux,Uy,Uz,U0,U1,U2,U3,U4,U5,U6,U7,U8,U9,Ka,Kb,Kc,Kd,Ke,Kf,Kg,Kh,Ki,Kj,Kk,Kl,Km,Kn,Ko,Kq,Kr,Ks,Kt,Ku,K1,K2,K3,K4,K5,K6,K7,Ga,Gx,Hb,Gq,Gp]
   tactic =>
    try simp only [Gl] at *
    try simp only [nc2] at *
    try simp (maxSteps := 4000000) only [G4]
    repeat' (first | with_reducible assumption | with_reducible refine And.intro ?_ ?_ | intro _ | omega | (rw [Gb]; omega))
    refine Ha [4, 6, 7, 8, 9, 10, 11, 12, 13, 14, 15, 16, 17, 18, 19] (fun k : Nat => [(5, .d (.int .i64 k))]) (fun k : Nat => []) (fun k : Nat => k ≤ l.length ∧ ∀ j, j < k → nm l j ≠ s) (fun k : Nat => l.length - k) 0 ?_ ?_ ?_
    · simp
    · ((try simp only [Gd, Gj, Gi, Gs, upd, Gt, G5, Hn, Nat.reduceDiv, Nat.reduceMod, Nat.reduceMul, Nat.reduceAdd, Nat.reduceEqDiff, List.set_cons_zero, List.set_cons_succ, if_true, if_false, reduceIte]); (first | refine Wk.of_fl ?_ | skip); simp only [Wk, wkK, Ht, wkT, wk1, AV.kept, keptAll, wkO, lk, Ge, and_true, true_and, and_self, Nat.reduceEqDiff, Nat.reduceLeDiff, if_true, if_false, reduceIte, reduceCtorEq, Option.isSome, false_implies]; try simp [Wk, wkK, wkT, wk1, AV.kept, keptAll, wkO, lk, Ge])
    rintro k ⟨hk, hno⟩
    rcases Hg k l.length with ⟨hlt, hlb⟩ | ⟨hlt, hlb⟩
    · have q1 := Hp m0 hlt
      have hst : nm l k ≠ s → ∀ j, j < k + 1 → nm l j ≠ s := fun h => Ok hno h
      have hit : nm l k = s → Hm l s = k := fun h => findZ_at hlt hno h
      unfold nm at hst hit
      obtain ⟨x, hx⟩ : ∃ x, l.getD k m0 = x := ⟨_, rfl⟩
      rw [hx] at q1 hst hit
      cases hb : (x.name == s) with
      | true =>
        have hr := hit (by simpa using hb)
        (sym =>
         simp [hlb,q1,hb,hr,Gg,szM,Fr,Ft,Fs,Fu,Fq,Fp,G9.eq_def,Za,Zb,Zc,Ze,Zf,Zg,Zn,Zo,Zp,Zq,Zr,Zs,Zv,Zx,Zy,Z5,Z9,Qa,Qb,Qf,Qj,Qk,Ql,Qm,Qn,Qo,Qq,Qw,Qx,Qz,Q3,Q5,Ja,Jc,Jd,Je,Jf,Jg,Jn,Js,Jt,Ju,Jv,Jw,Jz,J0,Xd,Xe,Xf,Xg,Xh,Xi,Xj,Xk,Xl,Xm,Xn,Xo,Xp,Xs,Xu,Xv,Xw,Xx,Xy,Xz,X0,X1,X2,X3,X4,X5,X6,X7,X8,X9,Wa,Wb,Wc,Wf,Wg,Wh,Wi,Wj,Wl,Wm,Wn,Wo,Wp,Wq,Wr,Ws,Wt,Wu,Wv,Ww,Wx,Wy,Wz,W0,W3,W4,W5,W6,W7,W8,W9,Ya,Yb,Yc,Yi,Yj,Yk,Yl,Ym,Yn,Yo,Yp,Yq,Yr,Ys,Yt,Yu,Yv,Yw,Yx,Yy,Yz,Y0,Y1,Y2,Y3,Y4,Y5,Y6,Y7,Y8,Y9,Va,Vb,Vc,Vd,Ve,Vf,Vg,Vh,Vi,Vj,Vk,Vl,Vm,Vn,Vo,Vp,Vq,Vr,Vs,Vt,Vu,Vv,Vw,Vx,Vy,Vz,V0,V1,V2,V3,V4,V5,V6,V7,V8,V9,Ua,Ub,Uc,Ud,Ue,Uf,Ug,Uh,Ui,Uo,Up,Us,Ut,Uu,Uv,Uw,Ux,Uy,Uz,U0,U1,U2,U3,U4,U5,U6,U7,U8,U9,Ka,Kb,Kc,Kd,Ke,Kf,Kg,Kh,Ki,Kj,Kk,Kl,Km,Kn,Ko,Kq,Kr,Ks,Kt,Ku,K1,K2,K3,K4,K5,K6,K7,Ga,Gx,Hb,Gq,Gp]
         tactic =>
          try simp only [Gl] at *
          try simp only [nc2] at *
          try simp (maxSteps := 4000000) only [hlb,q1,hb,hr,Gg,szM,G4]
          repeat' (first | with_reducible assumption | with_reducible refine And.intro ?_ ?_ | intro _ | omega | (rw [Gb]; omega))
          all_goals first
            | (with_reducible refine G7 ?_; kernel_rfl)
            | omega
            | rfl
            | skip)
      | false =>
        have h2 := hst (by simpa using hb)
        (sym =>
         simp [hlb,q1,hb,Gg,szM,Fr,Ft,Fs,Fu,Fq,Fp,G9.eq_def,Za,Zb,Zc,Ze,Zf,Zg,Zn,Zo,Zp,Zq,Zr,Zs,Zv,Zx,Zy,Z5,Z9,Qa,Qb,Qf,Qj,Qk,Ql,Qm,Qn,Qo,Qq,Qw,Qx,Qz,Q3,Q5,Ja,Jc,Jd,Je,Jf,Jg,Jn,Js,Jt,Ju,Jv,Jw,Jz,J0,Xd,Xe,Xf,Xg,Xh,Xi,Xj,Xk,Xl,Xm,Xn,Xo,Xp,Xs,Xu,Xv,Xw,Xx,Xy,Xz,X0,X1,X2,X3,X4,X5,X6,X7,X8,X9,Wa,Wb,Wc,Wf,Wg,Wh,Wi,Wj,Wl,Wm,Wn,Wo,Wp,Wq,Wr,Ws,Wt,Wu,Wv,Ww,Wx,Wy,Wz,W0,W3,W4,W5,W6,W7,W8,W9,Ya,Yb,Yc,Yi,Yj,Yk,Yl,Ym,Yn,Yo,Yp,Yq,Yr,Ys,Yt,Yu,Yv,Yw,Yx,Yy,Yz,Y0,Y1,Y2,Y3,Y4,Y5,Y6,Y7,Y8,Y9,Va,Vb,Vc,Vd,Ve,Vf,Vg,Vh,Vi,Vj,Vk,Vl,Vm,Vn,Vo,Vp,Vq,Vr,Vs,Vt,Vu,Vv,Vw,Vx,Vy,Vz,V0,V1,V2,V3,V4,V5,V6,V7,V8,V9,Ua,Ub,Uc,Ud,Ue,Uf,Ug,Uh,Ui,Uo,Up,Us,Ut,Uu,Uv,Uw,Ux,Uy,Uz,U0,U1,U2,U3,U4,U5,U6,U7,U8,U9,Ka,Kb,Kc,Kd,Ke,Kf,Kg,Kh,Ki,Kj,Kk,Kl,Km,Kn,Ko,Kq,Kr,Ks,Kt,Ku,K1,K2,K3,K4,K5,K6,K7,Ga,Gx,Hb,Gq,Gp]
         tactic =>
          try simp only [Gl] at *
          try simp only [nc2] at *
          try simp (maxSteps := 4000000) only [hlb,q1,hb,Gg,szM,G4]
          repeat' (first | with_reducible assumption | with_reducible refine And.intro ?_ ?_ | intro _ | omega | (rw [Gb]; omega))
          all_goals first
            | (with_reducible refine G7 ?_; kernel_rfl)
            | omega
            | exact ⟨k + 1, by ((try simp only [Gd, Gj, Gi, Gs, upd, Gt, G5, Hn, Nat.reduceDiv, Nat.reduceMod, Nat.reduceMul, Nat.reduceAdd, Nat.reduceEqDiff, List.set_cons_zero, List.set_cons_succ, if_true, if_false, reduceIte]); (first | refine Wk.of_fl ?_ | skip); simp only [Wk, wkK, Ht, wkT, wk1, AV.kept, keptAll, wkO, lk, Ge, and_true, true_and, and_self, Nat.reduceEqDiff, Nat.reduceLeDiff, if_true, if_false, reduceIte, reduceCtorEq, Option.isSome, false_implies]; try simp [Wk, wkK, wkT, wk1, AV.kept, keptAll, wkO, lk, Ge]), by omega, h2, by omega⟩
            | skip)
    · have hr : Hm l s = -1 := findZ_none fun j hj => hno j (by omega)
      (sym =>
       simp [hlb,hr,szM,Fr,Ft,Fs,Fu,Fq,Fp,G9.eq_def,Za,Zb,Zc,Ze,Zf,Zg,Zn,Zo,Zp,Zq,Zr,Zs,Zv,Zx,Zy,Z5,Z9,Qa,Qb,Qf,Qj,Qk,Ql,Qm,Qn,Qo,Qq,Qw,Qx,Qz,Q3,Q5,Ja,Jc,Jd,Je,Jf,Jg,Jn,Js,Jt,Ju,Jv,Jw,Jz,J0,Xd,Xe,Xf,Xg,Xh,Xi,Xj,Xk,Xl,Xm,Xn,Xo,Xp,Xs,Xu,Xv,Xw,Xx,Xy,Xz,X0,X1,X2,X3,X4,X5,X6,X7,X8,X9,Wa,Wb,Wc,Wf,Wg,Wh,Wi,Wj,Wl,Wm,Wn,Wo,Wp,Wq,Wr,Ws,Wt,Wu,Wv,Ww,Wx,Wy,Wz,W0,W3,W4,W5,W6,W7,W8,W9,Ya,Yb,Yc,Yi,Yj,Yk,Yl,Ym,Yn,Yo,Yp,Yq,Yr,Ys,Yt,Yu,Yv,Yw,Yx,Yy,Yz,Y0,Y1,Y2,Y3,Y4,Y5,Y6,Y7,Y8,Y9,Va,Vb,Vc,Vd,Ve,Vf,Vg,Vh,Vi,Vj,Vk,Vl,Vm,Vn,Vo,Vp,Vq,Vr,Vs,Vt,Vu,Vv,Vw,Vx,Vy,Vz,V0,V1,V2,V3,V4,V5,V6,V7,V8,V9,Ua,Ub,Uc,Ud,Ue,Uf,Ug,Uh,Ui,Uo,Up,Us,Ut,Uu,Uv,Uw,Ux,Uy,Uz,U0,U1,U2,U3,U4,U5,U6,U7,U8,U9,Ka,Kb,Kc,Kd,Ke,Kf,Kg,Kh,Ki,Kj,Kk,Kl,Km,Kn,Ko,Kq,Kr,Ks,Kt,Ku,K1,K2,K3,K4,K5,K6,K7,Ga,Gx,Hb,Gq,Gp]))
def Gu : Con := con2 (fun (l : Sl Mod) (_ : List UInt8) => Lo l.l.length) (fun l s => Hm l.l s)
noncomputable def Cu : Ctx := ⟨tab, lkC [], 60, lkB [], [], false⟩
theorem Fl : Cu.τ = tab := rfl
theorem Fn : Cu.Γ = lkC [] := rfl
theorem Fm : Cu.dp = 60 := rfl
theorem Fo : Cu.Δ = lkB [] := rfl
theorem Fk : Cu.cuts = [] := rfl
theorem Fj : Cu.wr = false := rfl
theorem Af : Ck Try.prog (15, Gu) := by
  refine ⟨Hh Try.func15 (by kernel_rfl) rfl, ?_⟩
  have K : Mj Try.prog Cu := Nj P8 Ny (by simp) (by simp)
  obtain ⟨c, hc⟩ : ∃ c, Try.f15.body = some c := ⟨_, rfl⟩
  refine Mi K Try.func15 hc [.tmp 4] rfl 20 rfl (fun cvs hpre => ?_)
  change Gu.pre cvs at hpre
  unfold Gu at hpre
  obtain ⟨⟨l⟩, s, rfl, hl⟩ := Lw hpre
  simp only at hl
  simp only [Try.f15, Option.some.injEq] at hc
  subst hc
  (sym =>
   simp [Fl,Fn,Fm,Fo,Fk,Fj,Gu.eq_def,Za,Zb,Zc,Ze,Zf,Zg,Zn,Zo,Zp,Zq,Zr,Zs,Zv,Zx,Zy,Z5,Z9,Qa,Qb,Qf,Qj,Qk,Ql,Qm,Qn,Qo,Qq,Qw,Qx,Qz,Q3,Q5,Ja,Jc,Jd,Je,Jf,Jg,Jn,Js,Jt,Ju,Jv,Jw,Jz,J0,Xd,Xe,Xf,Xg,Xh,Xi,Xj,Xk,Xl,Xm,Xn,Xo,Xp,Xs,Xu,Xv,Xw,Xx,Xy,Xz,X0,X1,X2,X3,X4,X5,X6,X7,X8,X9,Wa,Wb,Wc,Wf,Wg,Wh,Wi,Wj,Wl,Wm,Wn,Wo,Wp,Wq,Wr,Ws,Wt,Wu,Wv,Ww,Wx,Wy,Wz,W0,W3,W4,W5,W6,W7,W8,W9,Ya,Yb,Yc,Yi,Yj,Yk,Yl,Ym,Yn,Yo,Yp,Yq,Yr,Ys,Yt,Yu,Yv,Yw,Yx,Yy,Yz,Y0,Y1,Y2,Y3,Y4,Y5,Y6,Y7,Y8,Y9,Va,Vb,Vc,Vd,Ve,Vf,Vg,Vh,Vi,Vj,Vk,Vl,Vm,Vn,Vo,Vp,Vq,Vr,Vs,Vt,Vu,Vv,Vw,Vx,Vy,Vz,V0,V1,V2,V3,V4,V5,V6,V7,V8,V9,Ua,Ub,Uc,Ud,Ue,Uf,Ug,Uh,Ui,Uo,Up,Us,Ut,Uu,Uv,Uw,Ux,Uy,Uz,U0,U1,U2,U3,U4,U5,U6,U7,U8,U9,Ka,Kb,Kc,Kd,Ke,Kf,Kg,Kh,Ki,Kj,Kk,Kl,Km,Kn,Ko,Kq,Kr,Ks,Kt,Ku,K1,K2,K3,K4,K5,K6,K7,Ga,Gx,Hb,Gq,Gp]
   tactic =>
    try simp only [Gl] at *
    try simp only [nc2] at *
    try simp (maxSteps := 4000000) only [G4]
    repeat' (first | with_reducible assumption | with_reducible refine And.intro ?_ ?_ | intro _ | omega | (rw [Gb]; omega))
    refine Ha [4, 6, 7, 8, 9, 10, 11, 12, 13, 14, 15, 16, 17, 18, 19] (fun k : Nat => [(5, .d (.int .i64 k))]) (fun k : Nat => []) (fun k : Nat => k ≤ l.length ∧ ∀ j, j < k → nm l j ≠ s) (fun k : Nat => l.length - k) 0 ?_ ?_ ?_
    · simp
    · ((try simp only [Gd, Gj, Gi, Gs, upd, Gt, G5, Hn, Nat.reduceDiv, Nat.reduceMod, Nat.reduceMul, Nat.reduceAdd, Nat.reduceEqDiff, List.set_cons_zero, List.set_cons_succ, if_true, if_false, reduceIte]); (first | refine Wk.of_fl ?_ | skip); simp only [Wk, wkK, Ht, wkT, wk1, AV.kept, keptAll, wkO, lk, Ge, and_true, true_and, and_self, Nat.reduceEqDiff, Nat.reduceLeDiff, if_true, if_false, reduceIte, reduceCtorEq, Option.isSome, false_implies]; try simp [Wk, wkK, wkT, wk1, AV.kept, keptAll, wkO, lk, Ge])
    rintro k ⟨hk, hno⟩
    rcases Hg k l.length with ⟨hlt, hlb⟩ | ⟨hlt, hlb⟩
    · have q1 := Hp m0 hlt
      have hst : nm l k ≠ s → ∀ j, j < k + 1 → nm l j ≠ s := fun h => Ok hno h
      have hit : nm l k = s → Hm l s = k := fun h => findZ_at hlt hno h
      unfold nm at hst hit
      obtain ⟨x, hx⟩ : ∃ x, l.getD k m0 = x := ⟨_, rfl⟩
      rw [hx] at q1 hst hit
      cases hb : (x.name == s) with
      | true =>
        have hr := hit (by simpa using hb)
        (sym =>
         simp [hlb,q1,hb,hr,Gg,szM,Fl,Fn,Fm,Fo,Fk,Fj,Gu.eq_def,Za,Zb,Zc,Ze,Zf,Zg,Zn,Zo,Zp,Zq,Zr,Zs,Zv,Zx,Zy,Z5,Z9,Qa,Qb,Qf,Qj,Qk,Ql,Qm,Qn,Qo,Qq,Qw,Qx,Qz,Q3,Q5,Ja,Jc,Jd,Je,Jf,Jg,Jn,Js,Jt,Ju,Jv,Jw,Jz,J0,Xd,Xe,Xf,Xg,Xh,Xi,Xj,Xk,Xl,Xm,Xn,Xo,Xp,Xs,Xu,Xv,Xw,Xx,Xy,Xz,X0,X1,X2,X3,X4,X5,X6,X7,X8,X9,Wa,Wb,Wc,Wf,Wg,Wh,Wi,Wj,Wl,Wm,Wn,Wo,Wp,Wq,Wr,Ws,Wt,Wu,Wv,Ww,Wx,Wy,Wz,W0,W3,W4,W5,W6,W7,W8,W9,Ya,Yb,Yc,Yi,Yj,Yk,Yl,Ym,Yn,Yo,Yp,Yq,Yr,Ys,Yt,Yu,Yv,Yw,Yx,Yy,Yz,Y0,Y1,Y2,Y3,Y4,Y5,Y6,Y7,Y8,Y9,Va,Vb,Vc,Vd,Ve,Vf,Vg,Vh,Vi,Vj,Vk,Vl,Vm,Vn,Vo,Vp,Vq,Vr,Vs,Vt,Vu,Vv,Vw,Vx,Vy,Vz,V0,V1,V2,V3,V4,V5,V6,V7,V8,V9,Ua,Ub,Uc,Ud,Ue,Uf,Ug,Uh,Ui,Uo,Up,Us,Ut,Uu,Uv,Uw,Ux,Uy,Uz,U0,U1,U2,U3,U4,U5,U6,U7,U8,U9,Ka,Kb,Kc,Kd,Ke,Kf,Kg,Kh,Ki,Kj,Kk,Kl,Km,Kn,Ko,Kq,Kr,Ks,Kt,Ku,K1,K2,K3,K4,K5,K6,K7,Ga,Gx,Hb,Gq,Gp]
         tactic =>
          try simp only [Gl] at *
          try simp only [nc2] at *
          try simp (maxSteps := 4000000) only [hlb,q1,hb,hr,Gg,szM,G4]
          repeat' (first | with_reducible assumption | with_reducible refine And.intro ?_ ?_ | intro _ | omega | (rw [Gb]; omega))
          all_goals first
            | (with_reducible refine G7 ?_; kernel_rfl)
            | omega
            | rfl
            | skip)
      | false =>
        have h2 := hst (by simpa using hb)
        (sym =>
         simp [hlb,q1,hb,Gg,szM,Fl,Fn,Fm,Fo,Fk,Fj,Gu.eq_def,Za,Zb,Zc,Ze,Zf,Zg,Zn,Zo,Zp,Zq,Zr,Zs,Zv,Zx,Zy,Z5,Z9,Qa,Qb,Qf,Qj,Qk,Ql,Qm,Qn,Qo,Qq,Qw,Qx,Qz,Q3,Q5,Ja,Jc,Jd,Je,Jf,Jg,Jn,Js,Jt,Ju,Jv,Jw,Jz,J0,Xd,Xe,Xf,Xg,Xh,Xi,Xj,Xk,Xl,Xm,Xn,Xo,Xp,Xs,Xu,Xv,Xw,Xx,Xy,Xz,X0,X1,X2,X3,X4,X5,X6,X7,X8,X9,Wa,Wb,Wc,Wf,Wg,Wh,Wi,Wj,Wl,Wm,Wn,Wo,Wp,Wq,Wr,Ws,Wt,Wu,Wv,Ww,Wx,Wy,Wz,W0,W3,W4,W5,W6,W7,W8,W9,Ya,Yb,Yc,Yi,Yj,Yk,Yl,Ym,Yn,Yo,Yp,Yq,Yr,Ys,Yt,Yu,Yv,Yw,Yx,Yy,Yz,Y0,Y1,Y2,Y3,Y4,Y5,Y6,Y7,Y8,Y9,Va,Vb,Vc,Vd,Ve,Vf,Vg,Vh,Vi,Vj,Vk,Vl,Vm,Vn,Vo,Vp,Vq,Vr,Vs,Vt,Vu,Vv,Vw,Vx,Vy,Vz,V0,V1,V2,V3,V4,V5,V6,V7,V8,V9,Ua,Ub,Uc,Ud,Ue,Uf,Ug,Uh,Ui,Uo,Up,Us,Ut,Uu,Uv,Uw,Ux,Uy,Uz,U0,U1,U2,U3,U4,U5,U6,U7,U8,U9,Ka,Kb,Kc,Kd,Ke,Kf,Kg,Kh,Ki,Kj,Kk,Kl,Km,Kn,Ko,Kq,Kr,Ks,Kt,Ku,K1,K2,K3,K4,K5,K6,K7,Ga,Gx,Hb,Gq,Gp]
         tactic =>
          try simp only [Gl] at *
          try simp only [nc2] at *
          try simp (maxSteps := 4000000) only [hlb,q1,hb,Gg,szM,G4]
          repeat' (first | with_reducible assumption | with_reducible refine And.intro ?_ ?_ | intro _ | omega | (rw [Gb]; omega))
          all_goals first
            | (with_reducible refine G7 ?_; kernel_rfl)
            | omega
            | exact ⟨k + 1, by ((try simp only [Gd, Gj, Gi, Gs, upd, Gt, G5, Hn, Nat.reduceDiv, Nat.reduceMod, Nat.reduceMul, Nat.reduceAdd, Nat.reduceEqDiff, List.set_cons_zero, List.set_cons_succ, if_true, if_false, reduceIte]); (first | refine Wk.of_fl ?_ | skip); simp only [Wk, wkK, Ht, wkT, wk1, AV.kept, keptAll, wkO, lk, Ge, and_true, true_and, and_self, Nat.reduceEqDiff, Nat.reduceLeDiff, if_true, if_false, reduceIte, reduceCtorEq, Option.isSome, false_implies]; try simp [Wk, wkK, wkT, wk1, AV.kept, keptAll, wkO, lk, Ge]), by omega, h2, by omega⟩
            | skip)
    · have hr : Hm l s = -1 := findZ_none fun j hj => hno j (by omega)
      (sym =>
       simp [hlb,hr,szM,Fl,Fn,Fm,Fo,Fk,Fj,Gu.eq_def,Za,Zb,Zc,Ze,Zf,Zg,Zn,Zo,Zp,Zq,Zr,Zs,Zv,Zx,Zy,Z5,Z9,Qa,Qb,Qf,Qj,Qk,Ql,Qm,Qn,Qo,Qq,Qw,Qx,Qz,Q3,Q5,Ja,Jc,Jd,Je,Jf,Jg,Jn,Js,Jt,Ju,Jv,Jw,Jz,J0,Xd,Xe,Xf,Xg,Xh,Xi,Xj,Xk,Xl,Xm,Xn,Xo,Xp,Xs,Xu,Xv,Xw,Xx,Xy,Xz,X0,X1,X2,X3,X4,X5,X6,X7,X8,X9,Wa,Wb,Wc,Wf,Wg,Wh,Wi,Wj,Wl,Wm,Wn,Wo,Wp,Wq,Wr,Ws,Wt,Wu,Wv,Ww,Wx,Wy,Wz,W0,W3,W4,W5,W6,W7,W8,W9,Ya,Yb,Yc,Yi,Yj,Yk,Yl,Ym,Yn,Yo,Yp,Yq,Yr,Ys,Yt,Yu,Yv,Yw,Yx,Yy,Yz,Y0,Y1,Y2,Y3,Y4,Y5,Y6,Y7,Y8,Y9,Va,Vb,Vc,Vd,Ve,Vf,Vg,Vh,Vi,Vj,Vk,Vl,Vm,Vn,Vo,Vp,Vq,Vr,Vs,Vt,Vu,Vv,Vw,Vx,Vy,Vz,V0,V1,V2,V3,V4,V5,V6,V7,V8,V9,Ua,Ub,Uc,Ud,Ue,Uf,Ug,Uh,Ui,Uo,Up,Us,Ut,Uu,Uv,Uw,Ux,Uy,Uz,U0,U1,U2,U3,U4,U5,U6,U7,U8,U9,Ka,Kb,Kc,Kd,Ke,Kf,Kg,Kh,Ki,Kj,Kk,Kl,Km,Kn,Ko,Kq,Kr,Ks,Kt,Ku,K1,K2,K3,K4,K5,K6,K7,Ga,Gx,Hb,Gq,Gp]))
end Go.Am.Graph
set_option linter.unusedSimpArgs false
set_option linter.unusedVariables false
set_option maxHeartbeats 1000000
namespace Go.Am.Graph
open Go.Proofs
open Enc (enc dec)
def Tc (s : List UInt8) : Bool := !ltB 100 (s.length : Int)
def okM (m : Mod) : Bool := Tc m.name && (!ltB 20 (m.imps.length : Int) && m.imps.all Tc)
def Ph (l : List Mod) : Bool := !ltB 20 (l.length : Int) && l.all okM
def Gn : Con := Oo (fun (l : Sl Mod) => Lo l.l.length) (fun l => Ph l.l)
noncomputable def Ey : Ctx := ⟨tab, lkC [], 60, lkB [], [], false⟩
theorem La : Ey.τ = tab := rfl
theorem Ld : Ey.Γ = lkC [] := rfl
theorem Lb : Ey.dp = 60 := rfl
theorem Le : Ey.Δ = lkB [] := rfl
theorem B9 : Ey.cuts = [] := rfl
theorem B8 : Ey.wr = false := rfl
set_option maxRecDepth 100000 in
theorem Cr : Ck Try.prog (10, Gn) := by
  refine ⟨Hh Try.func10 (by kernel_rfl) rfl, ?_⟩
  have K : Mj Try.prog Ey := Nj P8 Ny (by simp) (by simp)
  obtain ⟨c, hc⟩ : ∃ c, Try.f10.body = some c := ⟨_, rfl⟩
  refine Mi K Try.func10 hc [.tmp 2] rfl 51 rfl (fun cvs hpre => ?_)
  change Gn.pre cvs at hpre
  unfold Gn at hpre
  obtain ⟨⟨l⟩, rfl, hl⟩ := St hpre
  simp only at hl
  clear hpre
  obtain ⟨R, hR⟩ : ∃ R, Ph l = R := ⟨_, rfl⟩
  have hR2 := hR
  unfold Ph at hR2
  simp only [Try.f10, Option.some.injEq] at hc
  subst hc
  refine Nu 3 (of_decide_eq_true (by kernel_rfl)) ?_
  (sym =>
   simp [La,Ld,Lb,Le,B9,B8,Gn.eq_def,Za,Zb,Zc,Zd,Ze,Zf,Zg,Zn,Zo,Zp,Zq,Zr,Zs,Zt,Zv,Zx,Zy,Z5,Z9,Qa,Qb,Qf,Qj,Qk,Ql,Qm,Qn,Qo,Qq,Qw,Qx,Qz,Q3,Q5,Ja,Jc,Jd,Je,Jf,Jg,Jn,Jr,Js,Jt,Ju,Jv,Jw,Jz,J0,J1,J2,J3,J4,J5,J6,J7,J8,J9,Xa,Xd,Xe,Xf,Xg,Xh,Xi,Xj,Xk,Xl,Xm,Xn,Xo,Xp,Xq,Xr,Xs,Xu,Xv,Xw,Xx,Xy,Xz,X0,X1,X2,X3,X4,X5,X6,X7,X8,X9,Wa,Wb,Wc,Wf,Wg,Wh,Wi,Wj,Wl,Wm,Wn,Wo,Wp,Wq,Wr,Ws,Wt,Wu,Wv,Ww,Wx,Wy,Wz,W0,W3,W4,W5,W6,W7,W8,W9,Ya,Yb,Yc,Yf,Yg,Yh,Yi,Yj,Yk,Yl,Ym,Yn,Yo,Yp,Yq,Yr,Ys,Yt,Yu,Yv,Yw,Yx,Yy,Yz,Y0,Y1,Y2,Y3,Y4,Y5,Y6,Y7,Y8,Y9,Va,Vb,Vc,Vd,Ve,Vf,Vg,Vh,Vi,Vj,Vk,Vl,Vm,Vn,Vo,Vp,Vq,Vr,Vs,Vt,Vu,Vv,Vw,Vx,Vy,Vz,V0,V1,V2,V3,V4,V5,V6,V7,V8,V9,Ua,Ub,Uc,Ud,Ue,Uf,Ug,Uh,Ui,Uo,Up,Us,Ut,Uu,Uv,Uw,Ux,Uy,Uz,U0,U1,U2,U3,U4,U5,U6,U7,U8,U9,Ka,Kb,Kc,Kd,Ke,Kf,Kg,Kh,Ki,Kj,Kk,Kl,Km,Kn,Ko,Kq,Kr,Ks,Kt,Ku,K1,K2,K3,K4,K5,K6,K7,Ga,Gx,Hb,Gq,Gy,Gp]
   tactic =>
    try simp only [Gl] at *
    try simp only [nc2] at *
    try simp (maxSteps := 4000000) only [G4]
    repeat' (first | with_reducible assumption | with_reducible refine And.intro ?_ ?_ | intro _ | omega | (rw [Gb]; omega))
    refine Ha [2, 4, 5, 6, 7, 8, 9, 10, 11, 12, 13, 14, 15, 16, 17, 18, 19, 20, 21, 22, 23, 24, 25, 26, 27, 28, 29, 30, 31, 32, 33, 34, 35, 36, 37, 38, 39, 40, 41, 42, 43, 44, 45, 46, 47, 48, 49, 50] (fun k : Nat => [(3, .d (.int .i64 k))]) (fun k : Nat => []) (fun k : Nat => k ≤ l.length ∧ k ≤ 20 ∧ ∀ j, j < k → okM (l.getD j m0) = true) (fun k : Nat => l.length - k) 0 ?_ ?_ ?_
    · simp
    · ((try simp only [Gd, Gj, Gi, Gs, upd, Gt, G5, Hn, Nat.reduceDiv, Nat.reduceMod, Nat.reduceMul, Nat.reduceAdd, Nat.reduceEqDiff, List.set_cons_zero, List.set_cons_succ, if_true, if_false, reduceIte]); (first | refine Wk.of_fl ?_ | skip); simp only [Wk, wkK, Ht, wkT, wk1, AV.kept, keptAll, wkO, lk, Ge, and_true, true_and, and_self, Nat.reduceEqDiff, Nat.reduceLeDiff, if_true, if_false, reduceIte, reduceCtorEq, Option.isSome, false_implies]; try simp [Wk, wkK, wkT, wk1, AV.kept, keptAll, wkO, lk, Ge])
    rintro k ⟨hk, hk20, hno⟩
    rcases Hg k l.length with ⟨hlt, hlb⟩ | ⟨hlt, hlb⟩
    · have q1 := Hp m0 hlt
      have hst : okM (l.getD k m0) = true → ∀ j, j < k + 1 → okM (l.getD j m0) = true := fun h => Ok hno h
      have hbad : okM (l.getD k m0) = false → R = false := fun h => by
        rw [← hR2, all_not (p := okM) m0 k hlt h, Bool.and_false]
      obtain ⟨x, hx⟩ : ∃ x, l.getD k m0 = x := ⟨_, rfl⟩
      rw [hx] at q1 hst hbad
      unfold okM Tc at hbad
      cases h20 : ((k : Int) == 20) with
      | true =>
        have hr : R = false := by
          rw [beq_iff_eq] at h20
          rw [← hR2, show ltB 20 (l.length : Int) = true by rw [Et]; omega, Bool.not_true, Bool.false_and]
        subst hr
        (sym =>
         simp [hlb,q1,h20,hR,Gg,szM,La,Ld,Lb,Le,B9,B8,Gn.eq_def,Za,Zb,Zc,Zd,Ze,Zf,Zg,Zn,Zo,Zp,Zq,Zr,Zs,Zt,Zv,Zx,Zy,Z5,Z9,Qa,Qb,Qf,Qj,Qk,Ql,Qm,Qn,Qo,Qq,Qw,Qx,Qz,Q3,Q5,Ja,Jc,Jd,Je,Jf,Jg,Jn,Jr,Js,Jt,Ju,Jv,Jw,Jz,J0,J1,J2,J3,J4,J5,J6,J7,J8,J9,Xa,Xd,Xe,Xf,Xg,Xh,Xi,Xj,Xk,Xl,Xm,Xn,Xo,Xp,Xq,Xr,Xs,Xu,Xv,Xw,Xx,Xy,Xz,X0,X1,X2,X3,X4,X5,X6,X7,X8,X9,Wa,Wb,Wc,Wf,Wg,Wh,Wi,Wj,Wl,Wm,Wn,Wo,Wp,Wq,Wr,Ws,Wt,Wu,Wv,Ww,Wx,Wy,Wz,W0,W3,W4,W5,W6,W7,W8,W9,Ya,Yb,Yc,Yf,Yg,Yh,Yi,Yj,Yk,Yl,Ym,Yn,Yo,Yp,Yq,Yr,Ys,Yt,Yu,Yv,Yw,Yx,Yy,Yz,Y0,Y1,Y2,Y3,Y4,Y5,Y6,Y7,Y8,Y9,Va,Vb,Vc,Vd,Ve,Vf,Vg,Vh,Vi,Vj,Vk,Vl,Vm,Vn,Vo,Vp,Vq,Vr,Vs,Vt,Vu,Vv,Vw,Vx,Vy,Vz,V0,V1,V2,V3,V4,V5,V6,V7,V8,V9,Ua,Ub,Uc,Ud,Ue,Uf,Ug,Uh,Ui,Uo,Up,Us,Ut,Uu,Uv,Uw,Ux,Uy,Uz,U0,U1,U2,U3,U4,U5,U6,U7,U8,U9,Ka,Kb,Kc,Kd,Ke,Kf,Kg,Kh,Ki,Kj,Kk,Kl,Km,Kn,Ko,Kq,Kr,Ks,Kt,Ku,K1,K2,K3,K4,K5,K6,K7,Ga,Gx,Hb,Gq,Gy,Gp])
      | false =>
      cases h1 : ltB 100 (x.name.length : Int) with
      | true =>
        rw [h1] at hbad
        have hr := hbad rfl
        subst hr
        (sym =>
         simp [hlb,q1,h20,h1,hR,Gg,szM,La,Ld,Lb,Le,B9,B8,Gn.eq_def,Za,Zb,Zc,Zd,Ze,Zf,Zg,Zn,Zo,Zp,Zq,Zr,Zs,Zt,Zv,Zx,Zy,Z5,Z9,Qa,Qb,Qf,Qj,Qk,Ql,Qm,Qn,Qo,Qq,Qw,Qx,Qz,Q3,Q5,Ja,Jc,Jd,Je,Jf,Jg,Jn,Jr,Js,Jt,Ju,Jv,Jw,Jz,J0,J1,J2,J3,J4,J5,J6,J7,J8,J9,Xa,Xd,Xe,Xf,Xg,Xh,Xi,Xj,Xk,Xl,Xm,Xn,Xo,Xp,Xq,Xr,Xs,Xu,Xv,Xw,Xx,Xy,Xz,X0,X1,X2,X3,X4,X5,X6,X7,X8,X9,Wa,Wb,Wc,Wf,Wg,Wh,Wi,Wj,Wl,Wm,Wn,Wo,Wp,Wq,Wr,Ws,Wt,Wu,Wv,Ww,Wx,Wy,Wz,W0,W3,W4,W5,W6,W7,W8,W9,Ya,Yb,Yc,Yf,Yg,Yh,Yi,Yj,Yk,Yl,Ym,Yn,Yo,Yp,Yq,Yr,Ys,Yt,Yu,Yv,Yw,Yx,Yy,Yz,Y0,Y1,Y2,Y3,Y4,Y5,Y6,Y7,Y8,Y9,Va,Vb,Vc,Vd,Ve,Vf,Vg,Vh,Vi,Vj,Vk,Vl,Vm,Vn,Vo,Vp,Vq,Vr,Vs,Vt,Vu,Vv,Vw,Vx,Vy,Vz,V0,V1,V2,V3,V4,V5,V6,V7,V8,V9,Ua,Ub,Uc,Ud,Ue,Uf,Ug,Uh,Ui,Uo,Up,Us,Ut,Uu,Uv,Uw,Ux,Uy,Uz,U0,U1,U2,U3,U4,U5,U6,U7,U8,U9,Ka,Kb,Kc,Kd,Ke,Kf,Kg,Kh,Ki,Kj,Kk,Kl,Km,Kn,Ko,Kq,Kr,Ks,Kt,Ku,K1,K2,K3,K4,K5,K6,K7,Ga,Gx,Hb,Gq,Gy,Gp]
         tactic =>
          try simp only [Gl] at *
          try simp only [nc2] at *
          try simp (maxSteps := 4000000) only [hlb,q1,h20,h1,hR,Gg,szM,G4]
          repeat' (first | with_reducible assumption | with_reducible refine And.intro ?_ ?_ | intro _ | omega | (rw [Gb]; omega))
          all_goals first
            | (with_reducible refine G7 ?_; kernel_rfl)
            | omega
            | rfl
            | skip)
      | false =>
      cases h2 : ltB 20 (x.imps.length : Int) with
      | true =>
        rw [h1, h2] at hbad
        have hr := hbad rfl
        subst hr
        (sym =>
         simp [hlb,q1,h20,h1,h2,hR,Gg,szM,La,Ld,Lb,Le,B9,B8,Gn.eq_def,Za,Zb,Zc,Zd,Ze,Zf,Zg,Zn,Zo,Zp,Zq,Zr,Zs,Zt,Zv,Zx,Zy,Z5,Z9,Qa,Qb,Qf,Qj,Qk,Ql,Qm,Qn,Qo,Qq,Qw,Qx,Qz,Q3,Q5,Ja,Jc,Jd,Je,Jf,Jg,Jn,Jr,Js,Jt,Ju,Jv,Jw,Jz,J0,J1,J2,J3,J4,J5,J6,J7,J8,J9,Xa,Xd,Xe,Xf,Xg,Xh,Xi,Xj,Xk,Xl,Xm,Xn,Xo,Xp,Xq,Xr,Xs,Xu,Xv,Xw,Xx,Xy,Xz,X0,X1,X2,X3,X4,X5,X6,X7,X8,X9,Wa,Wb,Wc,Wf,Wg,Wh,Wi,Wj,Wl,Wm,Wn,Wo,Wp,Wq,Wr,Ws,Wt,Wu,Wv,Ww,Wx,Wy,Wz,W0,W3,W4,W5,W6,W7,W8,W9,Ya,Yb,Yc,Yf,Yg,Yh,Yi,Yj,Yk,Yl,Ym,Yn,Yo,Yp,Yq,Yr,Ys,Yt,Yu,Yv,Yw,Yx,Yy,Yz,Y0,Y1,Y2,Y3,Y4,Y5,Y6,Y7,Y8,Y9,Va,Vb,Vc,Vd,Ve,Vf,Vg,Vh,Vi,Vj,Vk,Vl,Vm,Vn,Vo,Vp,Vq,Vr,Vs,Vt,Vu,Vv,Vw,Vx,Vy,Vz,V0,V1,V2,V3,V4,V5,V6,V7,V8,V9,Ua,Ub,Uc,Ud,Ue,Uf,Ug,Uh,Ui,Uo,Up,Us,Ut,Uu,Uv,Uw,Ux,Uy,Uz,U0,U1,U2,U3,U4,U5,U6,U7,U8,U9,Ka,Kb,Kc,Kd,Ke,Kf,Kg,Kh,Ki,Kj,Kk,Kl,Km,Kn,Ko,Kq,Kr,Ks,Kt,Ku,K1,K2,K3,K4,K5,K6,K7,Ga,Gx,Hb,Gq,Gy,Gp]
         tactic =>
          try simp only [Gl] at *
          try simp only [nc2] at *
          try simp (maxSteps := 4000000) only [hlb,q1,h20,h1,h2,hR,Gg,szM,G4]
          repeat' (first | with_reducible assumption | with_reducible refine And.intro ?_ ?_ | intro _ | omega | (rw [Gb]; omega))
          all_goals first
            | (with_reducible refine G7 ?_; kernel_rfl)
            | omega
            | rfl
            | skip)
      | false =>
      rw [h1, h2] at hbad
      simp only [Bool.not_false, Bool.true_and] at hbad
      have h20' : k < 20 := by
        rw [beq_eq_false_iff_ne] at h20
        omega
      have h2' := h2
      rw [Hq] at h2'
      (sym =>
       simp [hlb,q1,h20,h1,h2,Gg,szM,La,Ld,Lb,Le,B9,B8,Gn.eq_def,Za,Zb,Zc,Zd,Ze,Zf,Zg,Zn,Zo,Zp,Zq,Zr,Zs,Zt,Zv,Zx,Zy,Z5,Z9,Qa,Qb,Qf,Qj,Qk,Ql,Qm,Qn,Qo,Qq,Qw,Qx,Qz,Q3,Q5,Ja,Jc,Jd,Je,Jf,Jg,Jn,Jr,Js,Jt,Ju,Jv,Jw,Jz,J0,J1,J2,J3,J4,J5,J6,J7,J8,J9,Xa,Xd,Xe,Xf,Xg,Xh,Xi,Xj,Xk,Xl,Xm,Xn,Xo,Xp,Xq,Xr,Xs,Xu,Xv,Xw,Xx,Xy,Xz,X0,X1,X2,X3,X4,X5,X6,X7,X8,X9,Wa,Wb,Wc,Wf,Wg,Wh,Wi,Wj,Wl,Wm,Wn,Wo,Wp,Wq,Wr,Ws,Wt,Wu,Wv,Ww,Wx,Wy,Wz,W0,W3,W4,W5,W6,W7,W8,W9,Ya,Yb,Yc,Yf,Yg,Yh,Yi,Yj,Yk,Yl,Ym,Yn,Yo,Yp,Yq,Yr,Ys,Yt,Yu,Yv,Yw,Yx,Yy,Yz,Y0,Y1,Y2,Y3,Y4,Y5,Y6,Y7,Y8,Y9,Va,Vb,Vc,Vd,Ve,Vf,Vg,Vh,Vi,Vj,Vk,Vl,Vm,Vn,Vo,Vp,Vq,Vr,Vs,Vt,Vu,Vv,Vw,Vx,Vy,Vz,V0,V1,V2,V3,V4,V5,V6,V7,V8,V9,Ua,Ub,Uc,Ud,Ue,Uf,Ug,Uh,Ui,Uo,Up,Us,Ut,Uu,Uv,Uw,Ux,Uy,Uz,U0,U1,U2,U3,U4,U5,U6,U7,U8,U9,Ka,Kb,Kc,Kd,Ke,Kf,Kg,Kh,Ki,Kj,Kk,Kl,Km,Kn,Ko,Kq,Kr,Ks,Kt,Ku,K1,K2,K3,K4,K5,K6,K7,Ga,Gx,Hb,Gq,Gy,Gp]
       tactic =>
        try simp only [Gl] at *
        try simp only [nc2] at *
        try simp (maxSteps := 4000000) only [hlb,q1,h20,h1,h2,Gg,szM,G4]
        repeat' (first | with_reducible assumption | with_reducible refine And.intro ?_ ?_ | intro _ | omega | (rw [Gb]; omega))
        refine Ha [2, 31, 32, 33, 34, 35, 36, 37, 38, 39, 40, 41, 42, 43, 44, 45, 46, 47, 48, 49, 50] (fun j : Nat => [(4, .d (.int .i64 j))]) (fun j : Nat => []) (fun j : Nat => j ≤ x.imps.length ∧ ∀ i, i < j → Tc (x.imps.getD i []) = true) (fun j : Nat => x.imps.length - j) 0 ?_ ?_ ?_
        · simp
        · ((try simp only [Gd, Gj, Gi, Gs, upd, Gt, G5, Hn, Nat.reduceDiv, Nat.reduceMod, Nat.reduceMul, Nat.reduceAdd, Nat.reduceEqDiff, List.set_cons_zero, List.set_cons_succ, if_true, if_false, reduceIte]); (first | refine Wk.of_fl ?_ | skip); simp only [Wk, wkK, Ht, wkT, wk1, AV.kept, keptAll, wkO, lk, Ge, and_true, true_and, and_self, Nat.reduceEqDiff, Nat.reduceLeDiff, if_true, if_false, reduceIte, reduceCtorEq, Option.isSome, false_implies]; try simp [Wk, wkK, wkT, wk1, AV.kept, keptAll, wkO, lk, Ge])
        rintro j ⟨hj, hnj⟩
        rcases Hg j x.imps.length with ⟨hjl, hjb⟩ | ⟨hjl, hjb⟩
        · have q2 := Hp ([] : List UInt8) hjl
          have hsj : Tc (x.imps.getD j []) = true → ∀ i, i < j + 1 → Tc (x.imps.getD i []) = true := fun h => Ok hnj h
          have hbj : Tc (x.imps.getD j []) = false → R = false := fun h => hbad (all_not (p := Tc) [] j hjl h)
          obtain ⟨y, hy⟩ : ∃ y, x.imps.getD j [] = y := ⟨_, rfl⟩
          rw [hy] at q2 hsj hbj
          unfold Tc at hsj hbj
          cases h3 : ltB 100 (y.length : Int) with
          | true =>
            rw [h3] at hbj
            have hr := hbj rfl
            subst hr
            (sym =>
             simp [hlb,hjb,q1,q2,h3,hR,Gg,szM,La,Ld,Lb,Le,B9,B8,Gn.eq_def,Za,Zb,Zc,Zd,Ze,Zf,Zg,Zn,Zo,Zp,Zq,Zr,Zs,Zt,Zv,Zx,Zy,Z5,Z9,Qa,Qb,Qf,Qj,Qk,Ql,Qm,Qn,Qo,Qq,Qw,Qx,Qz,Q3,Q5,Ja,Jc,Jd,Je,Jf,Jg,Jn,Jr,Js,Jt,Ju,Jv,Jw,Jz,J0,J1,J2,J3,J4,J5,J6,J7,J8,J9,Xa,Xd,Xe,Xf,Xg,Xh,Xi,Xj,Xk,Xl,Xm,Xn,Xo,Xp,Xq,Xr,Xs,Xu,Xv,Xw,Xx,Xy,Xz,X0,X1,X2,X3,X4,X5,X6,X7,X8,X9,Wa,Wb,Wc,Wf,Wg,Wh,Wi,Wj,Wl,Wm,Wn,Wo,Wp,Wq,Wr,Ws,Wt,Wu,Wv,Ww,Wx,Wy,Wz,W0,W3,W4,W5,W6,W7,W8,W9,Ya,Yb,Yc,Yf,Yg,Yh,Yi,Yj,Yk,Yl,Ym,Yn,Yo,Yp,Yq,Yr,Ys,Yt,Yu,Yv,Yw,Yx,Yy,Yz,Y0,Y1,Y2,Y3,Y4,Y5,Y6,Y7,Y8,Y9,Va,Vb,Vc,Vd,Ve,Vf,Vg,Vh,Vi,Vj,Vk,Vl,Vm,Vn,Vo,Vp,Vq,Vr,Vs,Vt,Vu,Vv,Vw,Vx,Vy,Vz,V0,V1,V2,V3,V4,V5,V6,V7,V8,V9,Ua,Ub,Uc,Ud,Ue,Uf,Ug,Uh,Ui,Uo,Up,Us,Ut,Uu,Uv,Uw,Ux,Uy,Uz,U0,U1,U2,U3,U4,U5,U6,U7,U8,U9,Ka,Kb,Kc,Kd,Ke,Kf,Kg,Kh,Ki,Kj,Kk,Kl,Km,Kn,Ko,Kq,Kr,Ks,Kt,Ku,K1,K2,K3,K4,K5,K6,K7,Ga,Gx,Hb,Gq,Gy,Gp]
             tactic =>
              try simp only [Gl] at *
              try simp only [nc2] at *
              try simp (maxSteps := 4000000) only [hlb,hjb,q1,q2,h3,hR,Gg,szM,G4]
              repeat' (first | with_reducible assumption | with_reducible refine And.intro ?_ ?_ | intro _ | omega | (rw [Gb]; omega))
              all_goals first
                | (with_reducible refine G7 ?_; kernel_rfl)
                | omega
                | rfl
                | skip)
          | false =>
            rw [h3] at hsj
            have hs := hsj rfl
            (sym =>
             simp [hlb,hjb,q1,q2,h3,Gg,szM,La,Ld,Lb,Le,B9,B8,Gn.eq_def,Za,Zb,Zc,Zd,Ze,Zf,Zg,Zn,Zo,Zp,Zq,Zr,Zs,Zt,Zv,Zx,Zy,Z5,Z9,Qa,Qb,Qf,Qj,Qk,Ql,Qm,Qn,Qo,Qq,Qw,Qx,Qz,Q3,Q5,Ja,Jc,Jd,Je,Jf,Jg,Jn,Jr,Js,Jt,Ju,Jv,Jw,Jz,J0,J1,J2,J3,J4,J5,J6,J7,J8,J9,Xa,Xd,Xe,Xf,Xg,Xh,Xi,Xj,Xk,Xl,Xm,Xn,Xo,Xp,Xq,Xr,Xs,Xu,Xv,Xw,Xx,Xy,Xz,X0,X1,X2,X3,X4,X5,X6,X7,X8,X9,Wa,Wb,Wc,Wf,Wg,Wh,Wi,Wj,Wl,Wm,Wn,Wo,Wp,Wq,Wr,Ws,Wt,Wu,Wv,Ww,Wx,Wy,Wz,W0,W3,W4,W5,W6,W7,W8,W9,Ya,Yb,Yc,Yf,Yg,Yh,Yi,Yj,Yk,Yl,Ym,Yn,Yo,Yp,Yq,Yr,Ys,Yt,Yu,Yv,Yw,Yx,Yy,Yz,Y0,Y1,Y2,Y3,Y4,Y5,Y6,Y7,Y8,Y9,Va,Vb,Vc,Vd,Ve,Vf,Vg,Vh,Vi,Vj,Vk,Vl,Vm,Vn,Vo,Vp,Vq,Vr,Vs,Vt,Vu,Vv,Vw,Vx,Vy,Vz,V0,V1,V2,V3,V4,V5,V6,V7,V8,V9,Ua,Ub,Uc,Ud,Ue,Uf,Ug,Uh,Ui,Uo,Up,Us,Ut,Uu,Uv,Uw,Ux,Uy,Uz,U0,U1,U2,U3,U4,U5,U6,U7,U8,U9,Ka,Kb,Kc,Kd,Ke,Kf,Kg,Kh,Ki,Kj,Kk,Kl,Km,Kn,Ko,Kq,Kr,Ks,Kt,Ku,K1,K2,K3,K4,K5,K6,K7,Ga,Gx,Hb,Gq,Gy,Gp]
             tactic =>
              try simp only [Gl] at *
              try simp only [nc2] at *
              try simp (maxSteps := 4000000) only [hlb,hjb,q1,q2,h3,Gg,szM,G4]
              repeat' (first | with_reducible assumption | with_reducible refine And.intro ?_ ?_ | intro _ | omega | (rw [Gb]; omega))
              all_goals first
                | (with_reducible refine G7 ?_; kernel_rfl)
                | omega
                | exact ⟨j + 1, by ((try simp only [Gd, Gj, Gi, Gs, upd, Gt, G5, Hn, Nat.reduceDiv, Nat.reduceMod, Nat.reduceMul, Nat.reduceAdd, Nat.reduceEqDiff, List.set_cons_zero, List.set_cons_succ, if_true, if_false, reduceIte]); (first | refine Wk.of_fl ?_ | skip); simp only [Wk, wkK, Ht, wkT, wk1, AV.kept, keptAll, wkO, lk, Ge, and_true, true_and, and_self, Nat.reduceEqDiff, Nat.reduceLeDiff, if_true, if_false, reduceIte, reduceCtorEq, Option.isSome, false_implies]; try simp [Wk, wkK, wkT, wk1, AV.kept, keptAll, wkO, lk, Ge]), by omega, hs, by omega⟩
                | skip)
        · have hx2 : okM x = true := by
            unfold okM
            rw [show Tc x.name = true by unfold Tc; rw [h1]; rfl, h2, all_of_lt (p := Tc) [] fun i hi => hnj i (by omega)]
            rfl
          have hs := hst hx2
          (sym =>
           simp [hlb,hjb,q1,Gg,szM,La,Ld,Lb,Le,B9,B8,Gn.eq_def,Za,Zb,Zc,Zd,Ze,Zf,Zg,Zn,Zo,Zp,Zq,Zr,Zs,Zt,Zv,Zx,Zy,Z5,Z9,Qa,Qb,Qf,Qj,Qk,Ql,Qm,Qn,Qo,Qq,Qw,Qx,Qz,Q3,Q5,Ja,Jc,Jd,Je,Jf,Jg,Jn,Jr,Js,Jt,Ju,Jv,Jw,Jz,J0,J1,J2,J3,J4,J5,J6,J7,J8,J9,Xa,Xd,Xe,Xf,Xg,Xh,Xi,Xj,Xk,Xl,Xm,Xn,Xo,Xp,Xq,Xr,Xs,Xu,Xv,Xw,Xx,Xy,Xz,X0,X1,X2,X3,X4,X5,X6,X7,X8,X9,Wa,Wb,Wc,Wf,Wg,Wh,Wi,Wj,Wl,Wm,Wn,Wo,Wp,Wq,Wr,Ws,Wt,Wu,Wv,Ww,Wx,Wy,Wz,W0,W3,W4,W5,W6,W7,W8,W9,Ya,Yb,Yc,Yf,Yg,Yh,Yi,Yj,Yk,Yl,Ym,Yn,Yo,Yp,Yq,Yr,Ys,Yt,Yu,Yv,Yw,Yx,Yy,Yz,Y0,Y1,Y2,Y3,Y4,Y5,Y6,Y7,Y8,Y9,Va,Vb,Vc,Vd,Ve,Vf,Vg,Vh,Vi,Vj,Vk,Vl,Vm,Vn,Vo,Vp,Vq,Vr,Vs,Vt,Vu,Vv,Vw,Vx,Vy,Vz,V0,V1,V2,V3,V4,V5,V6,V7,V8,V9,Ua,Ub,Uc,Ud,Ue,Uf,Ug,Uh,Ui,Uo,Up,Us,Ut,Uu,Uv,Uw,Ux,Uy,Uz,U0,U1,U2,U3,U4,U5,U6,U7,U8,U9,Ka,Kb,Kc,Kd,Ke,Kf,Kg,Kh,Ki,Kj,Kk,Kl,Km,Kn,Ko,Kq,Kr,Ks,Kt,Ku,K1,K2,K3,K4,K5,K6,K7,Ga,Gx,Hb,Gq,Gy,Gp]
           tactic =>
            try simp only [Gl] at *
            try simp only [nc2] at *
            try simp (maxSteps := 4000000) only [hlb,hjb,q1,Gg,szM,G4]
            repeat' (first | with_reducible assumption | with_reducible refine And.intro ?_ ?_ | intro _ | omega | (rw [Gb]; omega))
            all_goals first
              | (with_reducible refine G7 ?_; kernel_rfl)
              | omega
              | exact ⟨k + 1, by ((try simp only [Gd, Gj, Gi, Gs, upd, Gt, G5, Hn, Nat.reduceDiv, Nat.reduceMod, Nat.reduceMul, Nat.reduceAdd, Nat.reduceEqDiff, List.set_cons_zero, List.set_cons_succ, if_true, if_false, reduceIte]); (first | refine Wk.of_fl ?_ | skip); simp only [Wk, wkK, Ht, wkT, wk1, AV.kept, keptAll, wkO, lk, Ge, and_true, true_and, and_self, Nat.reduceEqDiff, Nat.reduceLeDiff, if_true, if_false, reduceIte, reduceCtorEq, Option.isSome, false_implies]; try simp [Wk, wkK, wkT, wk1, AV.kept, keptAll, wkO, lk, Ge]), by omega, by omega, hs, by omega⟩
              | skip))
    · have hkl : k = l.length := by omega
      have hr : R = true := by
        rw [← hR2, all_of_lt (p := okM) m0 fun j hj => hno j (by omega), show ltB 20 (l.length : Int) = false by rw [Hq]; omega, Bool.not_false, Bool.and_self]
      subst hr
      (sym =>
       simp [hlb,hR,szM,La,Ld,Lb,Le,B9,B8,Gn.eq_def,Za,Zb,Zc,Zd,Ze,Zf,Zg,Zn,Zo,Zp,Zq,Zr,Zs,Zt,Zv,Zx,Zy,Z5,Z9,Qa,Qb,Qf,Qj,Qk,Ql,Qm,Qn,Qo,Qq,Qw,Qx,Qz,Q3,Q5,Ja,Jc,Jd,Je,Jf,Jg,Jn,Jr,Js,Jt,Ju,Jv,Jw,Jz,J0,J1,J2,J3,J4,J5,J6,J7,J8,J9,Xa,Xd,Xe,Xf,Xg,Xh,Xi,Xj,Xk,Xl,Xm,Xn,Xo,Xp,Xq,Xr,Xs,Xu,Xv,Xw,Xx,Xy,Xz,X0,X1,X2,X3,X4,X5,X6,X7,X8,X9,Wa,Wb,Wc,Wf,Wg,Wh,Wi,Wj,Wl,Wm,Wn,Wo,Wp,Wq,Wr,Ws,Wt,Wu,Wv,Ww,Wx,Wy,Wz,W0,W3,W4,W5,W6,W7,W8,W9,Ya,Yb,Yc,Yf,Yg,Yh,Yi,Yj,Yk,Yl,Ym,Yn,Yo,Yp,Yq,Yr,Ys,Yt,Yu,Yv,Yw,Yx,Yy,Yz,Y0,Y1,Y2,Y3,Y4,Y5,Y6,Y7,Y8,Y9,Va,Vb,Vc,Vd,Ve,Vf,Vg,Vh,Vi,Vj,Vk,Vl,Vm,Vn,Vo,Vp,Vq,Vr,Vs,Vt,Vu,Vv,Vw,Vx,Vy,Vz,V0,V1,V2,V3,V4,V5,V6,V7,V8,V9,Ua,Ub,Uc,Ud,Ue,Uf,Ug,Uh,Ui,Uo,Up,Us,Ut,Uu,Uv,Uw,Ux,Uy,Uz,U0,U1,U2,U3,U4,U5,U6,U7,U8,U9,Ka,Kb,Kc,Kd,Ke,Kf,Kg,Kh,Ki,Kj,Kk,Kl,Km,Kn,Ko,Kq,Kr,Ks,Kt,Ku,K1,K2,K3,K4,K5,K6,K7,Ga,Gx,Hb,Gq,Gy,Gp]))
end Go.Am.Graph
set_option linter.unusedSimpArgs false
set_option linter.unusedVariables false
set_option maxHeartbeats 1000000
namespace Go.Am.Graph
open Go.Proofs
open Enc (enc dec)
theorem Px {l : List Mod} (h : Ph l = true) : l.length ≤ 20 := by
  unfold Ph at h
  simp only [Bool.and_eq_true, Bool.not_eq_true'] at h
  have := h.1
  rw [Hq] at this
  omega
theorem few_at {l : List Mod} (h : Ph l = true) (k : Nat) : okM (l.getD k m0) = true := by
  unfold Ph at h
  simp only [Bool.and_eq_true, List.all_eq_true] at h
  rcases Nat.lt_or_ge k l.length with hk | hk
  · rw [List.getD_eq_getElem?_getD, List.getElem?_eq_getElem hk]
    exact h.2 _ (List.getElem_mem hk)
  · rw [List.getD_eq_getElem?_getD, List.getElem?_eq_none hk]
    decide
abbrev imp (l : List Mod) (k : Nat) : List (List UInt8) := (l.getD k m0).imps
theorem Dv {l : List Mod} (h : Ph l = true) (k : Nat) : (imp l k).length ≤ 20 := by
  have := few_at h k
  unfold okM at this
  simp only [Bool.and_eq_true, Bool.not_eq_true'] at this
  have := this.2.1
  rw [Hq] at this
  show (l.getD k m0).imps.length ≤ 20
  omega
theorem Mr : ∀ {l : List Mod} {s : List UInt8} {k : Nat}, Hr l s = some k → k < l.length
  | [], s, k, h => by simp [Hr] at h
  | m :: l, s, k, h => by
    rw [Hr] at h
    by_cases hm : m.name = s
    · rw [if_pos hm] at h
      injection h with h
      subst h
      simp
    · rw [if_neg hm] at h
      cases hf : Hr l s with
      | none => rw [hf] at h; cases h
      | some j =>
        rw [hf] at h
        simp only [Option.map_some, Option.some.injEq] at h
        have := Mr hf
        simp only [List.length_cons]
        omega
def O9 (l : List Mod) (i : Int) (come : List Int) : Bool := (imp l i.toNat).all fun s => inB come (Hm l s)
def Hs : Con := con3 (fun (l : Sl Mod) (i : Int) (c : Sl Int) => Ph l.l = true ∧ 0 ≤ i ∧ i < l.l.length ∧ Lo c.l.length) (fun l i c => O9 l.l i c.l)
noncomputable def Ti : Ctx := ⟨tab, lkC [(28, G9), (18, G6)], 60, lkB [], [], false⟩
theorem Dz : Ti.τ = tab := rfl
theorem D1 : Ti.Γ = lkC [(28, G9), (18, G6)] := rfl
theorem D0 : Ti.dp = 60 := rfl
theorem D2 : Ti.Δ = lkB [] := rfl
theorem Dy : Ti.cuts = [] := rfl
theorem Dx : Ti.wr = false := rfl
set_option maxRecDepth 100000 in
theorem good_ready8 : Ck Try.prog (31, Hs) := by
  refine ⟨Hh Try.func31 (by kernel_rfl) rfl, ?_⟩
  have K : Mj Try.prog Ti := Nj P8 Ny (by
    intro p hp
    simp only [List.mem_cons, List.not_mem_nil, or_false] at hp
    rcases hp with rfl | rfl
    · exact good_find8
    · exact I5) (by simp)
  obtain ⟨c, hc⟩ : ∃ c, Try.f31.body = some c := ⟨_, rfl⟩
  refine Mi K Try.func31 hc [.tmp 6] rfl 31 rfl (fun cvs hpre => ?_)
  change Hs.pre cvs at hpre
  unfold Hs at hpre
  obtain ⟨⟨l⟩, i, ⟨c0⟩, rfl, hf, hi0, hil, hcl⟩ := con3_pre hpre
  simp only at hf hi0 hil hcl
  clear hpre
  obtain ⟨n, rfl⟩ := Int.eq_ofNat_of_zero_le hi0
  have hl20 := Px hf
  have hi20 := Dv hf n
  have hnl : n < l.length := by omega
  have q0 := Hp m0 hnl
  obtain ⟨R, hR⟩ : ∃ R, O9 l n c0 = R := ⟨_, rfl⟩
  have hR2 := hR
  unfold O9 at hR2
  rw [Int.toNat_natCast] at hR2
  unfold imp at hR2 hi20
  obtain ⟨x, hx⟩ : ∃ x, l.getD n m0 = x := ⟨_, rfl⟩
  rw [hx] at q0 hR2 hi20
  simp only [Try.f31, Option.some.injEq] at hc
  subst hc
  (sym =>
   simp [Dz,D1,D0,D2,Dy,Dx,G6.eq_def,G9.eq_def,Hs.eq_def,Za,Zb,Zc,Ze,Zf,Zg,Zn,Zo,Zp,Zq,Zr,Zs,Zv,Zx,Zy,Z5,Z7,Z8,Z9,Qa,Qb,Qc,Qd,Qe,Qf,Qj,Qk,Ql,Qm,Qn,Qo,Qq,Qw,Qx,Qz,Q3,Q4,Q5,Ja,Jc,Jd,Je,Jf,Jg,Jn,Js,Jt,Ju,Jv,Jw,Jz,J0,Xd,Xe,Xf,Xg,Xh,Xi,Xj,Xk,Xl,Xm,Xn,Xo,Xp,Xs,Xu,Xv,Xw,Xx,Xy,Xz,X0,X1,X2,X3,X4,X5,X6,X7,X8,X9,Wa,Wb,Wc,Wf,Wg,Wh,Wi,Wj,Wl,Wm,Wn,Wo,Wp,Wq,Wr,Ws,Wt,Wu,Wv,Ww,Wx,Wy,Wz,W0,W3,W4,W5,W6,W7,W8,W9,Ya,Yb,Yc,Yi,Yj,Yk,Yl,Ym,Yn,Yo,Yp,Yq,Yr,Ys,Yt,Yu,Yv,Yw,Yx,Yy,Yz,Y0,Y1,Y2,Y3,Y4,Y5,Y6,Y7,Y8,Y9,Va,Vb,Vc,Vd,Ve,Vf,Vg,Vh,Vi,Vj,Vk,Vl,Vm,Vn,Vo,Vp,Vq,Vr,Vs,Vt,Vu,Vv,Vw,Vx,Vy,Vz,V0,V1,V2,V3,V4,V5,V6,V7,V8,V9,Ua,Ub,Uc,Ud,Ue,Uf,Ug,Uh,Ui,Uo,Up,Us,Ut,Uu,Uv,Uw,Ux,Uy,Uz,U0,U1,U2,U3,U4,U5,U6,U7,U8,U9,Ka,Kb,Kc,Kd,Ke,Kf,Kg,Kh,Ki,Kj,Kk,Kl,Km,Kn,Ko,Kq,Kr,Ks,Kt,Ku,K1,K2,K3,K4,K5,K6,K7,Ga,Gx,Hd,Hb,Gq,Hi,Gy,Gp]
   tactic =>
    try simp only [Gl] at *
    try simp only [nc2] at *
    try simp (maxSteps := 4000000) only [G4]
    repeat' (first | with_reducible assumption | with_reducible refine And.intro ?_ ?_ | intro _ | omega | (rw [Gb]; omega))
    refine Ha [6, 8, 9, 10, 11, 12, 13, 14, 15, 16, 17, 18, 19, 20, 21, 22, 23, 24, 25, 26, 27, 28, 29, 30] (fun k : Nat => [(7, .d (.int .i64 k))]) (fun k : Nat => []) (fun k : Nat => k ≤ x.imps.length ∧ ∀ j, j < k → inB c0 (Hm l (x.imps.getD j [])) = true) (fun k : Nat => x.imps.length - k) 0 ?_ ?_ ?_
    · simp
    · ((try simp only [Gd, Gj, Gi, Gs, upd, Gt, G5, Hn, Nat.reduceDiv, Nat.reduceMod, Nat.reduceMul, Nat.reduceAdd, Nat.reduceEqDiff, List.set_cons_zero, List.set_cons_succ, if_true, if_false, reduceIte]); (first | refine Wk.of_fl ?_ | skip); simp only [Wk, wkK, Ht, wkT, wk1, AV.kept, keptAll, wkO, lk, Ge, and_true, true_and, and_self, Nat.reduceEqDiff, Nat.reduceLeDiff, if_true, if_false, reduceIte, reduceCtorEq, Option.isSome, false_implies]; try simp [Wk, wkK, wkT, wk1, AV.kept, keptAll, wkO, lk, Ge])
    rintro k ⟨hk, hno⟩
    rcases Hg k x.imps.length with ⟨hlt, hlb⟩ | ⟨hlt, hlb⟩
    · have q1 := Hp ([] : List UInt8) hlt
      have hst : inB c0 (Hm l (x.imps.getD k [])) = true → ∀ j, j < k + 1 → inB c0 (Hm l (x.imps.getD j [])) = true := fun h => Ok hno h
      have hbad : inB c0 (Hm l (x.imps.getD k [])) = false → R = false := fun h => by
        rw [← hR2]; exact all_not (p := fun s => inB c0 (Hm l s)) [] k hlt h
      obtain ⟨y, hy⟩ : ∃ y, x.imps.getD k [] = y := ⟨_, rfl⟩
      rw [hy] at q1 hst hbad
      cases hb : inB c0 (Hm l y) with
      | true =>
        have hs := hst hb
        (sym =>
         simp [hlb,q0,q1,hb,Gg,szM,Dz,D1,D0,D2,Dy,Dx,G6.eq_def,G9.eq_def,Hs.eq_def,Za,Zb,Zc,Ze,Zf,Zg,Zn,Zo,Zp,Zq,Zr,Zs,Zv,Zx,Zy,Z5,Z7,Z8,Z9,Qa,Qb,Qc,Qd,Qe,Qf,Qj,Qk,Ql,Qm,Qn,Qo,Qq,Qw,Qx,Qz,Q3,Q4,Q5,Ja,Jc,Jd,Je,Jf,Jg,Jn,Js,Jt,Ju,Jv,Jw,Jz,J0,Xd,Xe,Xf,Xg,Xh,Xi,Xj,Xk,Xl,Xm,Xn,Xo,Xp,Xs,Xu,Xv,Xw,Xx,Xy,Xz,X0,X1,X2,X3,X4,X5,X6,X7,X8,X9,Wa,Wb,Wc,Wf,Wg,Wh,Wi,Wj,Wl,Wm,Wn,Wo,Wp,Wq,Wr,Ws,Wt,Wu,Wv,Ww,Wx,Wy,Wz,W0,W3,W4,W5,W6,W7,W8,W9,Ya,Yb,Yc,Yi,Yj,Yk,Yl,Ym,Yn,Yo,Yp,Yq,Yr,Ys,Yt,Yu,Yv,Yw,Yx,Yy,Yz,Y0,Y1,Y2,Y3,Y4,Y5,Y6,Y7,Y8,Y9,Va,Vb,Vc,Vd,Ve,Vf,Vg,Vh,Vi,Vj,Vk,Vl,Vm,Vn,Vo,Vp,Vq,Vr,Vs,Vt,Vu,Vv,Vw,Vx,Vy,Vz,V0,V1,V2,V3,V4,V5,V6,V7,V8,V9,Ua,Ub,Uc,Ud,Ue,Uf,Ug,Uh,Ui,Uo,Up,Us,Ut,Uu,Uv,Uw,Ux,Uy,Uz,U0,U1,U2,U3,U4,U5,U6,U7,U8,U9,Ka,Kb,Kc,Kd,Ke,Kf,Kg,Kh,Ki,Kj,Kk,Kl,Km,Kn,Ko,Kq,Kr,Ks,Kt,Ku,K1,K2,K3,K4,K5,K6,K7,Ga,Gx,Hd,Hb,Gq,Hi,Gy,Gp]
         tactic =>
          try simp only [Gl] at *
          try simp only [nc2] at *
          try simp (maxSteps := 4000000) only [hlb,q0,q1,hb,Gg,szM,G4]
          repeat' (first | with_reducible assumption | with_reducible refine And.intro ?_ ?_ | intro _ | omega | (rw [Gb]; omega))
          all_goals first
            | (with_reducible refine G7 ?_; kernel_rfl)
            | omega
            | exact ⟨k + 1, by ((try simp only [Gd, Gj, Gi, Gs, upd, Gt, G5, Hn, Nat.reduceDiv, Nat.reduceMod, Nat.reduceMul, Nat.reduceAdd, Nat.reduceEqDiff, List.set_cons_zero, List.set_cons_succ, if_true, if_false, reduceIte]); (first | refine Wk.of_fl ?_ | skip); simp only [Wk, wkK, Ht, wkT, wk1, AV.kept, keptAll, wkO, lk, Ge, and_true, true_and, and_self, Nat.reduceEqDiff, Nat.reduceLeDiff, if_true, if_false, reduceIte, reduceCtorEq, Option.isSome, false_implies]; try simp [Wk, wkK, wkT, wk1, AV.kept, keptAll, wkO, lk, Ge]), by omega, hs, by omega⟩
            | skip)
      | false =>
        have hr := hbad hb
        subst hr
        (sym =>
         simp [hlb,q0,q1,hb,hR,Gg,szM,Dz,D1,D0,D2,Dy,Dx,G6.eq_def,G9.eq_def,Hs.eq_def,Za,Zb,Zc,Ze,Zf,Zg,Zn,Zo,Zp,Zq,Zr,Zs,Zv,Zx,Zy,Z5,Z7,Z8,Z9,Qa,Qb,Qc,Qd,Qe,Qf,Qj,Qk,Ql,Qm,Qn,Qo,Qq,Qw,Qx,Qz,Q3,Q4,Q5,Ja,Jc,Jd,Je,Jf,Jg,Jn,Js,Jt,Ju,Jv,Jw,Jz,J0,Xd,Xe,Xf,Xg,Xh,Xi,Xj,Xk,Xl,Xm,Xn,Xo,Xp,Xs,Xu,Xv,Xw,Xx,Xy,Xz,X0,X1,X2,X3,X4,X5,X6,X7,X8,X9,Wa,Wb,Wc,Wf,Wg,Wh,Wi,Wj,Wl,Wm,Wn,Wo,Wp,Wq,Wr,Ws,Wt,Wu,Wv,Ww,Wx,Wy,Wz,W0,W3,W4,W5,W6,W7,W8,W9,Ya,Yb,Yc,Yi,Yj,Yk,Yl,Ym,Yn,Yo,Yp,Yq,Yr,Ys,Yt,Yu,Yv,Yw,Yx,Yy,Yz,Y0,Y1,Y2,Y3,Y4,Y5,Y6,Y7,Y8,Y9,Va,Vb,Vc,Vd,Ve,Vf,Vg,Vh,Vi,Vj,Vk,Vl,Vm,Vn,Vo,Vp,Vq,Vr,Vs,Vt,Vu,Vv,Vw,Vx,Vy,Vz,V0,V1,V2,V3,V4,V5,V6,V7,V8,V9,Ua,Ub,Uc,Ud,Ue,Uf,Ug,Uh,Ui,Uo,Up,Us,Ut,Uu,Uv,Uw,Ux,Uy,Uz,U0,U1,U2,U3,U4,U5,U6,U7,U8,U9,Ka,Kb,Kc,Kd,Ke,Kf,Kg,Kh,Ki,Kj,Kk,Kl,Km,Kn,Ko,Kq,Kr,Ks,Kt,Ku,K1,K2,K3,K4,K5,K6,K7,Ga,Gx,Hd,Hb,Gq,Hi,Gy,Gp]
         tactic =>
          try simp only [Gl] at *
          try simp only [nc2] at *
          try simp (maxSteps := 4000000) only [hlb,q0,q1,hb,hR,Gg,szM,G4]
          repeat' (first | with_reducible assumption | with_reducible refine And.intro ?_ ?_ | intro _ | omega | (rw [Gb]; omega))
          all_goals first
            | (with_reducible refine G7 ?_; kernel_rfl)
            | omega
            | rfl
            | skip)
    · have hr : R = true := by
        rw [← hR2]; exact all_of_lt (p := fun s => inB c0 (Hm l s)) [] fun j hj => hno j (by omega)
      subst hr
      (sym =>
       simp [hlb,q0,hR,Gg,szM,Dz,D1,D0,D2,Dy,Dx,G6.eq_def,G9.eq_def,Hs.eq_def,Za,Zb,Zc,Ze,Zf,Zg,Zn,Zo,Zp,Zq,Zr,Zs,Zv,Zx,Zy,Z5,Z7,Z8,Z9,Qa,Qb,Qc,Qd,Qe,Qf,Qj,Qk,Ql,Qm,Qn,Qo,Qq,Qw,Qx,Qz,Q3,Q4,Q5,Ja,Jc,Jd,Je,Jf,Jg,Jn,Js,Jt,Ju,Jv,Jw,Jz,J0,Xd,Xe,Xf,Xg,Xh,Xi,Xj,Xk,Xl,Xm,Xn,Xo,Xp,Xs,Xu,Xv,Xw,Xx,Xy,Xz,X0,X1,X2,X3,X4,X5,X6,X7,X8,X9,Wa,Wb,Wc,Wf,Wg,Wh,Wi,Wj,Wl,Wm,Wn,Wo,Wp,Wq,Wr,Ws,Wt,Wu,Wv,Ww,Wx,Wy,Wz,W0,W3,W4,W5,W6,W7,W8,W9,Ya,Yb,Yc,Yi,Yj,Yk,Yl,Ym,Yn,Yo,Yp,Yq,Yr,Ys,Yt,Yu,Yv,Yw,Yx,Yy,Yz,Y0,Y1,Y2,Y3,Y4,Y5,Y6,Y7,Y8,Y9,Va,Vb,Vc,Vd,Ve,Vf,Vg,Vh,Vi,Vj,Vk,Vl,Vm,Vn,Vo,Vp,Vq,Vr,Vs,Vt,Vu,Vv,Vw,Vx,Vy,Vz,V0,V1,V2,V3,V4,V5,V6,V7,V8,V9,Ua,Ub,Uc,Ud,Ue,Uf,Ug,Uh,Ui,Uo,Up,Us,Ut,Uu,Uv,Uw,Ux,Uy,Uz,U0,U1,U2,U3,U4,U5,U6,U7,U8,U9,Ka,Kb,Kc,Kd,Ke,Kf,Kg,Kh,Ki,Kj,Kk,Kl,Km,Kn,Ko,Kq,Kr,Ks,Kt,Ku,K1,K2,K3,K4,K5,K6,K7,Ga,Gx,Hd,Hb,Gq,Hi,Gy,Gp]
       tactic =>
        try simp only [Gl] at *
        try simp only [nc2] at *
        try simp (maxSteps := 4000000) only [hlb,q0,hR,Gg,szM,G4]
        repeat' (first | with_reducible assumption | with_reducible refine And.intro ?_ ?_ | intro _ | omega | (rw [Gb]; omega))
        all_goals first
          | (with_reducible refine G7 ?_; kernel_rfl)
          | omega
          | trivial
          | rfl
          | skip))
def Mt (l : List Mod) (is : List Bool) : Nat → Int
  | 0 => -1
  | k + 1 => cond (is.getD k false && (ltB (Mt l is k) 0 || Op.bytesLess (nm l k) (nm l (Mt l is k).toNat))) (k : Int) (Mt l is k)
theorem bestN_lt (l : List Mod) (is : List Bool) : ∀ k, Mt l is k = -1 ∨ (0 ≤ Mt l is k ∧ Mt l is k < k)
  | 0 => .inl rfl
  | k + 1 => by
    have ih := bestN_lt l is k
    rw [Mt]
    cases is.getD k false && (ltB (Mt l is k) 0 || Op.bytesLess (nm l k) (nm l (Mt l is k).toNat)) with
    | true => right; simp only [cond_true]; omega
    | false => simp only [cond_false]; omega
def Ho : Con := con2 (fun (l : Sl Mod) (is : Sl Bool) => l.l.length ≤ 20 ∧ is.l.length = l.l.length) (fun l is => Mt l.l is.l l.l.length)
noncomputable def Tk : Ctx := ⟨tab, lkC [], 60, lkB [], [], false⟩
theorem L9 : Tk.τ = tab := rfl
theorem Sb : Tk.Γ = lkC [] := rfl
theorem Sa : Tk.dp = 60 := rfl
theorem Sc : Tk.Δ = lkB [] := rfl
theorem L8 : Tk.cuts = [] := rfl
theorem L7 : Tk.wr = false := rfl
set_option maxRecDepth 100000 in
theorem good_least8 : Ck Try.prog (30, Ho) := by
  refine ⟨Hh Try.func30 (by kernel_rfl) rfl, ?_⟩
  have K : Mj Try.prog Tk := Nj P8 Ny (by simp) (by simp)
  obtain ⟨c, hc⟩ : ∃ c, Try.f30.body = some c := ⟨_, rfl⟩
  refine Mi K Try.func30 hc [.tmp 4] rfl 36 rfl (fun cvs hpre => ?_)
  change Ho.pre cvs at hpre
  unfold Ho at hpre
  obtain ⟨⟨l⟩, ⟨is⟩, rfl, hl, his⟩ := Lw hpre
  simp only at hl his
  clear hpre
  simp only [Try.f30, Option.some.injEq] at hc
  subst hc
  refine Nu 2 (of_decide_eq_true (by kernel_rfl)) ?_
  (sym =>
   simp [L9,Sb,Sa,Sc,L8,L7,Ho.eq_def,Za,Zb,Zc,Zd,Ze,Zf,Zg,Zh,Zi,Zj,Zk,Zl,Zm,Zn,Zo,Zp,Zq,Zr,Zs,Zt,Zv,Zx,Zy,Z5,Z9,Qa,Qb,Qf,Qj,Qk,Ql,Qm,Qn,Qo,Qp,Qq,Qw,Qx,Qz,Q0,Q1,Q3,Q5,Ja,Jc,Jd,Je,Jf,Jg,Jn,Jr,Js,Jt,Ju,Jv,Jw,Jz,J0,J1,J2,J3,J4,J5,J6,J7,J8,J9,Xa,Xd,Xe,Xf,Xg,Xh,Xi,Xj,Xk,Xl,Xm,Xn,Xo,Xp,Xq,Xr,Xs,Xu,Xv,Xw,Xx,Xy,Xz,X0,X1,X2,X3,X4,X5,X6,X7,X8,X9,Wa,Wb,Wc,Wd,We,Wf,Wg,Wh,Wi,Wj,Wl,Wm,Wn,Wo,Wp,Wq,Wr,Ws,Wt,Wu,Wv,Ww,Wx,Wy,Wz,W0,W3,W4,W5,W6,W7,W8,W9,Ya,Yb,Yc,Yf,Yg,Yh,Yi,Yj,Yk,Yl,Ym,Yn,Yo,Yp,Yq,Yr,Ys,Yt,Yu,Yv,Yw,Yx,Yy,Yz,Y0,Y1,Y2,Y3,Y4,Y5,Y6,Y7,Y8,Y9,Va,Vb,Vc,Vd,Ve,Vf,Vg,Vh,Vi,Vj,Vk,Vl,Vm,Vn,Vo,Vp,Vq,Vr,Vs,Vt,Vu,Vv,Vw,Vx,Vy,Vz,V0,V1,V2,V3,V4,V5,V6,V7,V8,V9,Ua,Ub,Uc,Ud,Ue,Uf,Ug,Uh,Ui,Uo,Up,Us,Ut,Uu,Uv,Uw,Ux,Uy,Uz,U0,U1,U2,U3,U4,U5,U6,U7,U8,U9,Ka,Kb,Kc,Kd,Ke,Kf,Kg,Kh,Ki,Kj,Kk,Kl,Km,Kn,Ko,Kq,Kr,Ks,Kt,Ku,K1,K2,K3,K4,K5,K6,K7,Ga,Gx,Hd,Hb,Gq,Gp,Nl]
   tactic =>
    try simp only [Gl] at *
    try simp only [nc2] at *
    try simp (maxSteps := 4000000) only [G4]
    repeat' (first | with_reducible assumption | with_reducible refine And.intro ?_ ?_ | intro _ | omega | (rw [Gb]; omega))
    refine Ha [7, 8, 9, 10, 11, 12, 13, 14, 15, 16, 17, 18, 19, 20, 21, 22, 23, 24, 25, 26, 27, 28, 29, 30, 31, 32, 33, 34] (fun k : Nat => [(5, .d (.int .i64 (Mt l is k))), (6, .d (.int .i64 k))]) (fun k : Nat => []) (fun k : Nat => k ≤ l.length) (fun k : Nat => l.length - k) 0 ?_ ?_ ?_
    · simp
    · ((try simp only [Gd, Gj, Gi, Gs, upd, Gt, G5, Hn, Nat.reduceDiv, Nat.reduceMod, Nat.reduceMul, Nat.reduceAdd, Nat.reduceEqDiff, List.set_cons_zero, List.set_cons_succ, if_true, if_false, reduceIte]); (first | refine Wk.of_fl ?_ | skip); simp only [Wk, wkK, Ht, wkT, wk1, AV.kept, keptAll, wkO, lk, Ge, and_true, true_and, and_self, Nat.reduceEqDiff, Nat.reduceLeDiff, if_true, if_false, reduceIte, reduceCtorEq, Option.isSome, false_implies]; try simp [Wk, wkK, wkT, wk1, AV.kept, keptAll, wkO, lk, Ge, Mt])
    rintro k hk
    rcases Hg k l.length with ⟨hlt, hlb⟩ | ⟨hlt, hlb⟩
    · have q1 := Hp m0 hlt
      have q2 := Hp false (show k < is.length by omega)
      have hB := bestN_lt l is k
      have hS : Mt l is (k + 1) = cond (is.getD k false && (ltB (Mt l is k) 0 || Op.bytesLess (nm l k) (nm l (Mt l is k).toNat))) (k : Int) (Mt l is k) := rfl
      obtain ⟨b, hb⟩ : ∃ b, Mt l is k = b := ⟨_, rfl⟩
      obtain ⟨b', hb'⟩ : ∃ b, Mt l is (k + 1) = b := ⟨_, rfl⟩
      rw [hb] at hB
      rw [hb, hb'] at hS
      rw [hb]
      unfold nm at hS
      obtain ⟨x, hx⟩ : ∃ x, l.getD k m0 = x := ⟨_, rfl⟩
      rw [hx] at q1 hS
      cases hk1 : is.getD k false with
      | false =>
        rw [hk1] at q2 hS
        simp only [Bool.false_and, cond_false] at hS
        (sym =>
         simp [hlb,q1,q2,Gg,szM,L9,Sb,Sa,Sc,L8,L7,Ho.eq_def,Za,Zb,Zc,Zd,Ze,Zf,Zg,Zh,Zi,Zj,Zk,Zl,Zm,Zn,Zo,Zp,Zq,Zr,Zs,Zt,Zv,Zx,Zy,Z5,Z9,Qa,Qb,Qf,Qj,Qk,Ql,Qm,Qn,Qo,Qp,Qq,Qw,Qx,Qz,Q0,Q1,Q3,Q5,Ja,Jc,Jd,Je,Jf,Jg,Jn,Jr,Js,Jt,Ju,Jv,Jw,Jz,J0,J1,J2,J3,J4,J5,J6,J7,J8,J9,Xa,Xd,Xe,Xf,Xg,Xh,Xi,Xj,Xk,Xl,Xm,Xn,Xo,Xp,Xq,Xr,Xs,Xu,Xv,Xw,Xx,Xy,Xz,X0,X1,X2,X3,X4,X5,X6,X7,X8,X9,Wa,Wb,Wc,Wd,We,Wf,Wg,Wh,Wi,Wj,Wl,Wm,Wn,Wo,Wp,Wq,Wr,Ws,Wt,Wu,Wv,Ww,Wx,Wy,Wz,W0,W3,W4,W5,W6,W7,W8,W9,Ya,Yb,Yc,Yf,Yg,Yh,Yi,Yj,Yk,Yl,Ym,Yn,Yo,Yp,Yq,Yr,Ys,Yt,Yu,Yv,Yw,Yx,Yy,Yz,Y0,Y1,Y2,Y3,Y4,Y5,Y6,Y7,Y8,Y9,Va,Vb,Vc,Vd,Ve,Vf,Vg,Vh,Vi,Vj,Vk,Vl,Vm,Vn,Vo,Vp,Vq,Vr,Vs,Vt,Vu,Vv,Vw,Vx,Vy,Vz,V0,V1,V2,V3,V4,V5,V6,V7,V8,V9,Ua,Ub,Uc,Ud,Ue,Uf,Ug,Uh,Ui,Uo,Up,Us,Ut,Uu,Uv,Uw,Ux,Uy,Uz,U0,U1,U2,U3,U4,U5,U6,U7,U8,U9,Ka,Kb,Kc,Kd,Ke,Kf,Kg,Kh,Ki,Kj,Kk,Kl,Km,Kn,Ko,Kq,Kr,Ks,Kt,Ku,K1,K2,K3,K4,K5,K6,K7,Ga,Gx,Hd,Hb,Gq,Gp,Nl]
         tactic =>
          try simp only [Gl] at *
          try simp only [nc2] at *
          try simp (maxSteps := 4000000) only [hlb,q1,q2,Gg,szM,G4]
          repeat' (first | with_reducible assumption | with_reducible refine And.intro ?_ ?_ | intro _ | omega | (rw [Gb]; omega))
          all_goals first
            | (with_reducible refine G7 ?_; kernel_rfl)
            | omega
            | exact ⟨k + 1, by rw [hb', hS]; ((try simp only [Gd, Gj, Gi, Gs, upd, Gt, G5, Hn, Nat.reduceDiv, Nat.reduceMod, Nat.reduceMul, Nat.reduceAdd, Nat.reduceEqDiff, List.set_cons_zero, List.set_cons_succ, if_true, if_false, reduceIte]); (first | refine Wk.of_fl ?_ | skip); simp only [Wk, wkK, Ht, wkT, wk1, AV.kept, keptAll, wkO, lk, Ge, and_true, true_and, and_self, Nat.reduceEqDiff, Nat.reduceLeDiff, if_true, if_false, reduceIte, reduceCtorEq, Option.isSome, false_implies]; try simp [Wk, wkK, wkT, wk1, AV.kept, keptAll, wkO, lk, Ge]), by omega, by omega⟩
            | skip)
      | true =>
        rw [hk1] at q2 hS
        simp only [Bool.true_and] at hS
        rcases hB with hB | ⟨hB0, hBk⟩
        · subst hB
          have hS1 : b' = k := hS
          (sym =>
           simp [hlb,q1,q2,Gg,szM,L9,Sb,Sa,Sc,L8,L7,Ho.eq_def,Za,Zb,Zc,Zd,Ze,Zf,Zg,Zh,Zi,Zj,Zk,Zl,Zm,Zn,Zo,Zp,Zq,Zr,Zs,Zt,Zv,Zx,Zy,Z5,Z9,Qa,Qb,Qf,Qj,Qk,Ql,Qm,Qn,Qo,Qp,Qq,Qw,Qx,Qz,Q0,Q1,Q3,Q5,Ja,Jc,Jd,Je,Jf,Jg,Jn,Jr,Js,Jt,Ju,Jv,Jw,Jz,J0,J1,J2,J3,J4,J5,J6,J7,J8,J9,Xa,Xd,Xe,Xf,Xg,Xh,Xi,Xj,Xk,Xl,Xm,Xn,Xo,Xp,Xq,Xr,Xs,Xu,Xv,Xw,Xx,Xy,Xz,X0,X1,X2,X3,X4,X5,X6,X7,X8,X9,Wa,Wb,Wc,Wd,We,Wf,Wg,Wh,Wi,Wj,Wl,Wm,Wn,Wo,Wp,Wq,Wr,Ws,Wt,Wu,Wv,Ww,Wx,Wy,Wz,W0,W3,W4,W5,W6,W7,W8,W9,Ya,Yb,Yc,Yf,Yg,Yh,Yi,Yj,Yk,Yl,Ym,Yn,Yo,Yp,Yq,Yr,Ys,Yt,Yu,Yv,Yw,Yx,Yy,Yz,Y0,Y1,Y2,Y3,Y4,Y5,Y6,Y7,Y8,Y9,Va,Vb,Vc,Vd,Ve,Vf,Vg,Vh,Vi,Vj,Vk,Vl,Vm,Vn,Vo,Vp,Vq,Vr,Vs,Vt,Vu,Vv,Vw,Vx,Vy,Vz,V0,V1,V2,V3,V4,V5,V6,V7,V8,V9,Ua,Ub,Uc,Ud,Ue,Uf,Ug,Uh,Ui,Uo,Up,Us,Ut,Uu,Uv,Uw,Ux,Uy,Uz,U0,U1,U2,U3,U4,U5,U6,U7,U8,U9,Ka,Kb,Kc,Kd,Ke,Kf,Kg,Kh,Ki,Kj,Kk,Kl,Km,Kn,Ko,Kq,Kr,Ks,Kt,Ku,K1,K2,K3,K4,K5,K6,K7,Ga,Gx,Hd,Hb,Gq,Gp,Nl]
           tactic =>
            try simp only [Gl] at *
            try simp only [nc2] at *
            try simp (maxSteps := 4000000) only [hlb,q1,q2,Gg,szM,G4]
            repeat' (first | with_reducible assumption | with_reducible refine And.intro ?_ ?_ | intro _ | omega | (rw [Gb]; omega))
            all_goals first
              | (with_reducible refine G7 ?_; kernel_rfl)
              | omega
              | exact ⟨k + 1, by rw [hb', hS1]; ((try simp only [Gd, Gj, Gi, Gs, upd, Gt, G5, Hn, Nat.reduceDiv, Nat.reduceMod, Nat.reduceMul, Nat.reduceAdd, Nat.reduceEqDiff, List.set_cons_zero, List.set_cons_succ, if_true, if_false, reduceIte]); (first | refine Wk.of_fl ?_ | skip); simp only [Wk, wkK, Ht, wkT, wk1, AV.kept, keptAll, wkO, lk, Ge, and_true, true_and, and_self, Nat.reduceEqDiff, Nat.reduceLeDiff, if_true, if_false, reduceIte, reduceCtorEq, Option.isSome, false_implies]; try simp [Wk, wkK, wkT, wk1, AV.kept, keptAll, wkO, lk, Ge]), by omega, by omega⟩
              | skip)
        · obtain ⟨p, rfl⟩ := Int.eq_ofNat_of_zero_le hB0
          have q3 := Hp m0 (show p < l.length by omega)
          have hp0 : ltB (p : Int) 0 = false := by rw [Hq]; omega
          rw [Int.toNat_natCast] at hS
          obtain ⟨y, hy⟩ : ∃ y, l.getD p m0 = y := ⟨_, rfl⟩
          rw [hy] at q3 hS
          rw [hp0, Bool.false_or] at hS
          cases hlss : Op.bytesLess x.name y.name with
          | true =>
            rw [hlss, cond_true] at hS
            (sym =>
             simp [hlb,q1,q2,q3,hp0,hlss,Gg,szM,L9,Sb,Sa,Sc,L8,L7,Ho.eq_def,Za,Zb,Zc,Zd,Ze,Zf,Zg,Zh,Zi,Zj,Zk,Zl,Zm,Zn,Zo,Zp,Zq,Zr,Zs,Zt,Zv,Zx,Zy,Z5,Z9,Qa,Qb,Qf,Qj,Qk,Ql,Qm,Qn,Qo,Qp,Qq,Qw,Qx,Qz,Q0,Q1,Q3,Q5,Ja,Jc,Jd,Je,Jf,Jg,Jn,Jr,Js,Jt,Ju,Jv,Jw,Jz,J0,J1,J2,J3,J4,J5,J6,J7,J8,J9,Xa,Xd,Xe,Xf,Xg,Xh,Xi,Xj,Xk,Xl,Xm,Xn,Xo,Xp,Xq,Xr,Xs,Xu,Xv,Xw,Xx,Xy,Xz,X0,X1,X2,X3,X4,X5,X6,X7,X8,X9,Wa,Wb,Wc,Wd,We,Wf,Wg,Wh,Wi,Wj,Wl,Wm,Wn,Wo,Wp,Wq,Wr,Ws,Wt,Wu,Wv,Ww,Wx,Wy,Wz,W0,W3,W4,W5,W6,W7,W8,W9,Ya,Yb,Yc,Yf,Yg,Yh,Yi,Yj,Yk,Yl,Ym,Yn,Yo,Yp,Yq,Yr,Ys,Yt,Yu,Yv,Yw,Yx,Yy,Yz,Y0,Y1,Y2,Y3,Y4,Y5,Y6,Y7,Y8,Y9,Va,Vb,Vc,Vd,Ve,Vf,Vg,Vh,Vi,Vj,Vk,Vl,Vm,Vn,Vo,Vp,Vq,Vr,Vs,Vt,Vu,Vv,Vw,Vx,Vy,Vz,V0,V1,V2,V3,V4,V5,V6,V7,V8,V9,Ua,Ub,Uc,Ud,Ue,Uf,Ug,Uh,Ui,Uo,Up,Us,Ut,Uu,Uv,Uw,Ux,Uy,Uz,U0,U1,U2,U3,U4,U5,U6,U7,U8,U9,Ka,Kb,Kc,Kd,Ke,Kf,Kg,Kh,Ki,Kj,Kk,Kl,Km,Kn,Ko,Kq,Kr,Ks,Kt,Ku,K1,K2,K3,K4,K5,K6,K7,Ga,Gx,Hd,Hb,Gq,Gp,Nl]
             tactic =>
              try simp only [Gl] at *
              try simp only [nc2] at *
              try simp (maxSteps := 4000000) only [hlb,q1,q2,q3,hp0,hlss,Gg,szM,G4]
              repeat' (first | with_reducible assumption | with_reducible refine And.intro ?_ ?_ | intro _ | omega | (rw [Gb]; omega))
              all_goals first
                | (with_reducible refine G7 ?_; kernel_rfl)
                | omega
                | exact ⟨k + 1, by rw [hb', hS]; ((try simp only [Gd, Gj, Gi, Gs, upd, Gt, G5, Hn, Nat.reduceDiv, Nat.reduceMod, Nat.reduceMul, Nat.reduceAdd, Nat.reduceEqDiff, List.set_cons_zero, List.set_cons_succ, if_true, if_false, reduceIte]); (first | refine Wk.of_fl ?_ | skip); simp only [Wk, wkK, Ht, wkT, wk1, AV.kept, keptAll, wkO, lk, Ge, and_true, true_and, and_self, Nat.reduceEqDiff, Nat.reduceLeDiff, if_true, if_false, reduceIte, reduceCtorEq, Option.isSome, false_implies]; try simp [Wk, wkK, wkT, wk1, AV.kept, keptAll, wkO, lk, Ge]), by omega, by omega⟩
                | skip)
          | false =>
            rw [hlss, cond_false] at hS
            (sym =>
             simp [hlb,q1,q2,q3,hp0,hlss,Gg,szM,L9,Sb,Sa,Sc,L8,L7,Ho.eq_def,Za,Zb,Zc,Zd,Ze,Zf,Zg,Zh,Zi,Zj,Zk,Zl,Zm,Zn,Zo,Zp,Zq,Zr,Zs,Zt,Zv,Zx,Zy,Z5,Z9,Qa,Qb,Qf,Qj,Qk,Ql,Qm,Qn,Qo,Qp,Qq,Qw,Qx,Qz,Q0,Q1,Q3,Q5,Ja,Jc,Jd,Je,Jf,Jg,Jn,Jr,Js,Jt,Ju,Jv,Jw,Jz,J0,J1,J2,J3,J4,J5,J6,J7,J8,J9,Xa,Xd,Xe,Xf,Xg,Xh,Xi,Xj,Xk,Xl,Xm,Xn,Xo,Xp,Xq,Xr,Xs,Xu,Xv,Xw,Xx,Xy,Xz,X0,X1,X2,X3,X4,X5,X6,X7,X8,X9,Wa,Wb,Wc,Wd,We,Wf,Wg,Wh,Wi,Wj,Wl,Wm,Wn,Wo,Wp,Wq,Wr,Ws,Wt,Wu,Wv,Ww,Wx,Wy,Wz,W0,W3,W4,W5,W6,W7,W8,W9,Ya,Yb,Yc,Yf,Yg,Yh,Yi,Yj,Yk,Yl,Ym,Yn,Yo,Yp,Yq,Yr,Ys,Yt,Yu,Yv,Yw,Yx,Yy,Yz,Y0,Y1,Y2,Y3,Y4,Y5,Y6,Y7,Y8,Y9,Va,Vb,Vc,Vd,Ve,Vf,Vg,Vh,Vi,Vj,Vk,Vl,Vm,Vn,Vo,Vp,Vq,Vr,Vs,Vt,Vu,Vv,Vw,Vx,Vy,Vz,V0,V1,V2,V3,V4,V5,V6,V7,V8,V9,Ua,Ub,Uc,Ud,Ue,Uf,Ug,Uh,Ui,Uo,Up,Us,Ut,Uu,Uv,Uw,Ux,Uy,Uz,U0,U1,U2,U3,U4,U5,U6,U7,U8,U9,Ka,Kb,Kc,Kd,Ke,Kf,Kg,Kh,Ki,Kj,Kk,Kl,Km,Kn,Ko,Kq,Kr,Ks,Kt,Ku,K1,K2,K3,K4,K5,K6,K7,Ga,Gx,Hd,Hb,Gq,Gp,Nl]
             tactic =>
              try simp only [Gl] at *
              try simp only [nc2] at *
              try simp (maxSteps := 4000000) only [hlb,q1,q2,q3,hp0,hlss,Gg,szM,G4]
              repeat' (first | with_reducible assumption | with_reducible refine And.intro ?_ ?_ | intro _ | omega | (rw [Gb]; omega))
              all_goals first
                | (with_reducible refine G7 ?_; kernel_rfl)
                | omega
                | exact ⟨k + 1, by rw [hb', hS]; ((try simp only [Gd, Gj, Gi, Gs, upd, Gt, G5, Hn, Nat.reduceDiv, Nat.reduceMod, Nat.reduceMul, Nat.reduceAdd, Nat.reduceEqDiff, List.set_cons_zero, List.set_cons_succ, if_true, if_false, reduceIte]); (first | refine Wk.of_fl ?_ | skip); simp only [Wk, wkK, Ht, wkT, wk1, AV.kept, keptAll, wkO, lk, Ge, and_true, true_and, and_self, Nat.reduceEqDiff, Nat.reduceLeDiff, if_true, if_false, reduceIte, reduceCtorEq, Option.isSome, false_implies]; try simp [Wk, wkK, wkT, wk1, AV.kept, keptAll, wkO, lk, Ge]), by omega, by omega⟩
                | skip)
    · have hkl : k = l.length := by omega
      rw [hkl]
      (sym =>
       simp [hlb,hkl,szM,L9,Sb,Sa,Sc,L8,L7,Ho.eq_def,Za,Zb,Zc,Zd,Ze,Zf,Zg,Zh,Zi,Zj,Zk,Zl,Zm,Zn,Zo,Zp,Zq,Zr,Zs,Zt,Zv,Zx,Zy,Z5,Z9,Qa,Qb,Qf,Qj,Qk,Ql,Qm,Qn,Qo,Qp,Qq,Qw,Qx,Qz,Q0,Q1,Q3,Q5,Ja,Jc,Jd,Je,Jf,Jg,Jn,Jr,Js,Jt,Ju,Jv,Jw,Jz,J0,J1,J2,J3,J4,J5,J6,J7,J8,J9,Xa,Xd,Xe,Xf,Xg,Xh,Xi,Xj,Xk,Xl,Xm,Xn,Xo,Xp,Xq,Xr,Xs,Xu,Xv,Xw,Xx,Xy,Xz,X0,X1,X2,X3,X4,X5,X6,X7,X8,X9,Wa,Wb,Wc,Wd,We,Wf,Wg,Wh,Wi,Wj,Wl,Wm,Wn,Wo,Wp,Wq,Wr,Ws,Wt,Wu,Wv,Ww,Wx,Wy,Wz,W0,W3,W4,W5,W6,W7,W8,W9,Ya,Yb,Yc,Yf,Yg,Yh,Yi,Yj,Yk,Yl,Ym,Yn,Yo,Yp,Yq,Yr,Ys,Yt,Yu,Yv,Yw,Yx,Yy,Yz,Y0,Y1,Y2,Y3,Y4,Y5,Y6,Y7,Y8,Y9,Va,Vb,Vc,Vd,Ve,Vf,Vg,Vh,Vi,Vj,Vk,Vl,Vm,Vn,Vo,Vp,Vq,Vr,Vs,Vt,Vu,Vv,Vw,Vx,Vy,Vz,V0,V1,V2,V3,V4,V5,V6,V7,V8,V9,Ua,Ub,Uc,Ud,Ue,Uf,Ug,Uh,Ui,Uo,Up,Us,Ut,Uu,Uv,Uw,Ux,Uy,Uz,U0,U1,U2,U3,U4,U5,U6,U7,U8,U9,Ka,Kb,Kc,Kd,Ke,Kf,Kg,Kh,Ki,Kj,Kk,Kl,Km,Kn,Ko,Kq,Kr,Ks,Kt,Ku,K1,K2,K3,K4,K5,K6,K7,Ga,Gx,Hd,Hb,Gq,Gp,Nl]
       tactic =>
        try simp only [Gl] at *
        try simp only [nc2] at *
        try simp (maxSteps := 4000000) only [hlb,hkl,szM,G4]
        repeat' (first | with_reducible assumption | with_reducible refine And.intro ?_ ?_ | intro _ | omega | (rw [Gb]; omega))
        all_goals first
          | trivial
          | rfl
          | skip))
end Go.Am.Graph
set_option linter.unusedSimpArgs false
set_option linter.unusedVariables false
set_option maxHeartbeats 1000000
namespace Go.Am.Graph
open Go.Proofs
open Enc (enc dec)
def mk1 (l : List Mod) (b : List Bool) (s : List UInt8) : List Bool := match Hr l s with
  | some n => b.set n true
  | none => b
def Dm (l : List Mod) (b : List Bool) (ss : List (List UInt8)) : List Bool := ss.foldl (mk1 l) b
def sweep1 (l : List Mod) (i : Int) (b : List Bool) (k : Nat) : List Bool := cond (((k : Int) != i) && !b.getD k false) b (Dm l b (imp l k))
def Bv (l : List Mod) (i : Int) (b : List Bool) : Nat → List Bool
  | 0 => b
  | k + 1 => sweep1 l i (Bv l i b k) k
def Mg (l : List Mod) (i : Int) : Nat → List Bool
  | 0 => List.replicate l.length false
  | r + 1 => Bv l i (Mg l i r) l.length
def H2 (l : List Mod) (i : Int) : List Bool := Mg l i (l.length + 1)
theorem mk1_len {l : List Mod} {b : List Bool} {s : List UInt8} : (mk1 l b s).length = b.length := by
  unfold mk1
  split <;> simp
theorem I2 {l : List Mod} : ∀ {ss : List (List UInt8)} {b : List Bool}, (Dm l b ss).length = b.length
  | [], b => rfl
  | s :: ss, b => by
    show (Dm l (mk1 l b s) ss).length = _
    rw [I2, mk1_len]
theorem marks_snoc {l : List Mod} {b : List Bool} {ss : List (List UInt8)} {j : Nat} (h : j < ss.length) : Dm l b (ss.take (j + 1)) = mk1 l (Dm l b (ss.take j)) (ss.getD j []) := by
  unfold Dm
  rw [List.take_succ_eq_append_getElem h, List.foldl_append]
  simp [h]
theorem sweep1_len {l : List Mod} {i : Int} {b : List Bool} {k : Nat} : (sweep1 l i b k).length = b.length := by
  unfold sweep1
  cases ((k : Int) != i) && !b.getD k false
  · rw [cond_false, I2]
  · rfl
theorem Co {l : List Mod} {i : Int} {b : List Bool} : ∀ k, (Bv l i b k).length = b.length
  | 0 => rfl
  | k + 1 => by rw [Bv, sweep1_len, Co k]
theorem Mq {l : List Mod} {i : Int} : ∀ r, (Mg l i r).length = l.length
  | 0 => by simp [Mg]
  | r + 1 => by rw [Mg, Co, Mq r]
theorem map_setB {b : List Bool} {n : Nat} : (b.map (enc : Bool → D)).set n (.bool true) = (b.set n true).map enc := by
  rw [List.map_set]; rfl
def Gr : Con := con2 (fun (l : Sl Mod) (_ : Int) => Ph l.l = true) (fun l i => Sl.mk (H2 l.l i))
noncomputable def B1 : Ctx := ⟨tab, lkC [(28, G9)], 60, lkB [], [], false⟩
theorem Np : B1.τ = tab := rfl
theorem Nr : B1.Γ = lkC [(28, G9)] := rfl
theorem Nq : B1.dp = 60 := rfl
theorem Ns : B1.Δ = lkB [] := rfl
theorem Nn : B1.cuts = [] := rfl
theorem Nm : B1.wr = false := rfl
set_option maxRecDepth 100000 in
theorem Oz : Ck Try.prog (29, Gr) := by
  refine ⟨Hh Try.func29 (by kernel_rfl) rfl, ?_⟩
  have K : Mj Try.prog B1 := Nj P8 Ny (by
    intro p hp
    simp only [List.mem_cons, List.not_mem_nil, or_false] at hp
    rcases hp with rfl
    · exact good_find8) (by simp)
  obtain ⟨c, hc⟩ : ∃ c, Try.f29.body = some c := ⟨_, rfl⟩
  refine Mi K Try.func29 hc [.tmp 4] rfl 61 rfl (fun cvs hpre => ?_)
  change Gr.pre cvs at hpre
  unfold Gr at hpre
  obtain ⟨⟨l⟩, i, rfl, hf⟩ := Lw hpre
  simp only at hf
  clear hpre
  have hl20 := Px hf
  simp only [Try.f29, Option.some.injEq] at hc
  subst hc
  refine Nu 3 (of_decide_eq_true (by kernel_rfl)) ?_
  (sym =>
   simp [szM,Np,Nr,Nq,Ns,Nn,Nm,G9.eq_def,Gr.eq_def,Za,Zb,Zc,Zd,Ze,Zf,Zg,Zn,Zo,Zp,Zq,Zr,Zs,Zt,Zv,Zw,Zx,Zy,Z2,Z5,Z7,Z8,Z9,Qa,Qb,Qc,Qd,Qe,Qf,Qi,Qj,Qk,Ql,Qm,Qn,Qo,Qq,Qw,Qx,Qz,Q3,Q4,Q5,Ja,Jc,Jd,Je,Jf,Jg,Jn,Jr,Js,Jt,Ju,Jv,Jw,Jz,J0,J1,J2,J3,J4,J5,J6,J7,J8,J9,Xa,Xd,Xe,Xf,Xg,Xh,Xi,Xj,Xk,Xl,Xm,Xn,Xo,Xp,Xq,Xr,Xs,Xt,Xu,Xv,Xw,Xx,Xy,Xz,X0,X1,X2,X3,X4,X5,X6,X7,X8,X9,Wa,Wb,Wc,Wf,Wg,Wh,Wi,Wj,Wl,Wm,Wn,Wo,Wp,Wq,Wr,Ws,Wt,Wu,Wv,Ww,Wx,Wy,Wz,W0,W3,W4,W5,W6,W7,W8,W9,Ya,Yb,Yc,Yf,Yg,Yh,Yi,Yj,Yk,Yl,Ym,Yn,Yo,Yp,Yq,Yr,Ys,Yt,Yu,Yv,Yw,Yx,Yy,Yz,Y0,Y1,Y2,Y3,Y4,Y5,Y6,Y7,Y8,Y9,Va,Vb,Vc,Vd,Ve,Vf,Vg,Vh,Vi,Vj,Vk,Vl,Vm,Vn,Vo,Vp,Vq,Vr,Vs,Vt,Vu,Vv,Vw,Vx,Vy,Vz,V0,V1,V2,V3,V4,V5,V6,V7,V8,V9,Ua,Ub,Uc,Ud,Ue,Uf,Ug,Uh,Ui,Uj,Uk,Ul,Um,Un,Uo,Up,Us,Ut,Uu,Uv,Uw,Ux,Uy,Uz,U0,U1,U2,U3,U4,U5,U6,U7,U8,U9,Ka,Kb,Kc,Kd,Ke,Kf,Kg,Kh,Ki,Kj,Kk,Kl,Km,Kn,Ko,Kq,Kr,Ks,Kt,Ku,K1,K2,K3,K4,K5,K6,K7,Ga,Gx,Hd,Hb,Gq,Gy,Gp,Nl]
   tactic =>
    try simp only [Gl] at *
    try simp only [nc2] at *
    try simp (maxSteps := 4000000) only [szM,G4]
    repeat' (first | with_reducible assumption | with_reducible refine And.intro ?_ ?_ | intro _ | omega | (rw [Gb]; omega))
    refine Ha [7, 8, 9, 13, 14, 15, 16, 17, 18, 19, 20, 21, 22, 23, 24, 25, 26, 27, 28, 29, 30, 31, 32, 33, 34, 35, 36, 37, 38, 39, 40, 41, 42, 43, 44, 45, 46, 47, 48, 49, 50, 51, 52, 53, 54, 55, 56, 57, 58, 59] (fun r : Nat => [(5, .sl 12 l.length), (6, .d (.int .i64 r))]) (fun r : Nat => [(12, .row 1 ((Mg l i r).map enc) 0)]) (fun r : Nat => r ≤ l.length + 1) (fun r : Nat => l.length + 1 - r) 0 ?_ ?_ ?_
    · omega
    · ((try simp only [Gd, Gj, Gi, Gs, upd, Gt, G5, Hn, Nat.reduceDiv, Nat.reduceMod, Nat.reduceMul, Nat.reduceAdd, Nat.reduceEqDiff, List.set_cons_zero, List.set_cons_succ, if_true, if_false, reduceIte]); (first | refine Wk.of_fl ?_ | skip); simp only [Wk, wkK, Ht, wkT, wk1, AV.kept, keptAll, wkO, lk, Ge, and_true, true_and, and_self, Nat.reduceEqDiff, Nat.reduceLeDiff, if_true, if_false, reduceIte, reduceCtorEq, Option.isSome, false_implies]; try simp [Wk, wkK, wkT, wk1, AV.kept, keptAll, wkO, lk, Ge, Mg, List.map_replicate])
    rintro r hr
    have hbl := Mq (l := l) (i := i) r
    have hnx : Mg l i (r + 1) = Bv l i (Mg l i r) l.length := rfl
    obtain ⟨b0, hb0⟩ : ∃ b, Mg l i r = b := ⟨_, rfl⟩
    by_cases hrl : r ≤ l.length
    · have hrb : leB (r : Int) (l.length : Int) = true := by rw [Ss]; omega
      rw [hb0] at hbl hnx ⊢
      (sym =>
       simp [hrb,szM,Np,Nr,Nq,Ns,Nn,Nm,G9.eq_def,Gr.eq_def,Za,Zb,Zc,Zd,Ze,Zf,Zg,Zn,Zo,Zp,Zq,Zr,Zs,Zt,Zv,Zw,Zx,Zy,Z2,Z5,Z7,Z8,Z9,Qa,Qb,Qc,Qd,Qe,Qf,Qi,Qj,Qk,Ql,Qm,Qn,Qo,Qq,Qw,Qx,Qz,Q3,Q4,Q5,Ja,Jc,Jd,Je,Jf,Jg,Jn,Jr,Js,Jt,Ju,Jv,Jw,Jz,J0,J1,J2,J3,J4,J5,J6,J7,J8,J9,Xa,Xd,Xe,Xf,Xg,Xh,Xi,Xj,Xk,Xl,Xm,Xn,Xo,Xp,Xq,Xr,Xs,Xt,Xu,Xv,Xw,Xx,Xy,Xz,X0,X1,X2,X3,X4,X5,X6,X7,X8,X9,Wa,Wb,Wc,Wf,Wg,Wh,Wi,Wj,Wl,Wm,Wn,Wo,Wp,Wq,Wr,Ws,Wt,Wu,Wv,Ww,Wx,Wy,Wz,W0,W3,W4,W5,W6,W7,W8,W9,Ya,Yb,Yc,Yf,Yg,Yh,Yi,Yj,Yk,Yl,Ym,Yn,Yo,Yp,Yq,Yr,Ys,Yt,Yu,Yv,Yw,Yx,Yy,Yz,Y0,Y1,Y2,Y3,Y4,Y5,Y6,Y7,Y8,Y9,Va,Vb,Vc,Vd,Ve,Vf,Vg,Vh,Vi,Vj,Vk,Vl,Vm,Vn,Vo,Vp,Vq,Vr,Vs,Vt,Vu,Vv,Vw,Vx,Vy,Vz,V0,V1,V2,V3,V4,V5,V6,V7,V8,V9,Ua,Ub,Uc,Ud,Ue,Uf,Ug,Uh,Ui,Uj,Uk,Ul,Um,Un,Uo,Up,Us,Ut,Uu,Uv,Uw,Ux,Uy,Uz,U0,U1,U2,U3,U4,U5,U6,U7,U8,U9,Ka,Kb,Kc,Kd,Ke,Kf,Kg,Kh,Ki,Kj,Kk,Kl,Km,Kn,Ko,Kq,Kr,Ks,Kt,Ku,K1,K2,K3,K4,K5,K6,K7,Ga,Gx,Hd,Hb,Gq,Gy,Gp,Nl]
       tactic =>
        try simp only [Gl] at *
        try simp only [nc2] at *
        try simp (maxSteps := 4000000) only [hrb,szM,G4]
        repeat' (first | with_reducible assumption | with_reducible refine And.intro ?_ ?_ | intro _ | omega | (rw [Gb]; omega))
        refine Ha [8, 9, 19, 20, 21, 22, 23, 24, 25, 26, 27, 28, 29, 30, 31, 32, 33, 34, 35, 36, 37, 38, 39, 40, 41, 42, 43, 44, 45, 46, 47, 48, 49, 50, 51, 52, 53, 54, 55, 56, 57, 58, 59] (fun k : Nat => [(7, .d (.int .i64 k))]) (fun k : Nat => [(12, .row 1 ((Bv l i b0 k).map enc) 0)]) (fun k : Nat => k ≤ l.length) (fun k : Nat => l.length - k) 0 ?_ ?_ ?_
        · omega
        · ((try simp only [Gd, Gj, Gi, Gs, upd, Gt, G5, Hn, Nat.reduceDiv, Nat.reduceMod, Nat.reduceMul, Nat.reduceAdd, Nat.reduceEqDiff, List.set_cons_zero, List.set_cons_succ, if_true, if_false, reduceIte]); (first | refine Wk.of_fl ?_ | skip); simp only [Wk, wkK, Ht, wkT, wk1, AV.kept, keptAll, wkO, lk, Ge, and_true, true_and, and_self, Nat.reduceEqDiff, Nat.reduceLeDiff, if_true, if_false, reduceIte, reduceCtorEq, Option.isSome, false_implies]; try simp [Wk, wkK, wkT, wk1, AV.kept, keptAll, wkO, lk, Ge, Bv])
        rintro k hk
        have hbl1 := Co (l := l) (i := i) (b := b0) k
        have hnx1 : Bv l i b0 (k + 1) = cond (((k : Int) != i) && !(Bv l i b0 k).getD k false) (Bv l i b0 k) (Dm l (Bv l i b0 k) (imp l k)) := rfl
        obtain ⟨b1, hb1⟩ : ∃ b, Bv l i b0 k = b := ⟨_, rfl⟩
        obtain ⟨b2, hb2⟩ : ∃ b, Bv l i b0 (k + 1) = b := ⟨_, rfl⟩
        rw [hb1] at hbl1
        rw [hb1, hb2] at hnx1
        rcases Hg k l.length with ⟨hlt, hlb⟩ | ⟨hlt, hlb⟩
        · rw [hb1]
          have q1 := Hp m0 hlt
          have q2 := Hp false (show k < b1.length by omega)
          have hi20 := Dv hf k
          unfold imp at hi20 hnx1
          obtain ⟨x, hx⟩ : ∃ x, l.getD k m0 = x := ⟨_, rfl⟩
          rw [hx] at q1 hi20 hnx1
          cases hc1 : (((k : Int) != i) && !b1.getD k false) with
          | true =>
            rw [hc1, cond_true] at hnx1
            simp only [Bool.and_eq_true, Bool.not_eq_true'] at hc1
            obtain ⟨hk1, hk2⟩ := hc1
            rw [hk2] at q2
            (sym =>
             simp [hrb,hlb,q1,q2,hk1,hbl1,hbl,Gg,szM,Np,Nr,Nq,Ns,Nn,Nm,G9.eq_def,Gr.eq_def,Za,Zb,Zc,Zd,Ze,Zf,Zg,Zn,Zo,Zp,Zq,Zr,Zs,Zt,Zv,Zw,Zx,Zy,Z2,Z5,Z7,Z8,Z9,Qa,Qb,Qc,Qd,Qe,Qf,Qi,Qj,Qk,Ql,Qm,Qn,Qo,Qq,Qw,Qx,Qz,Q3,Q4,Q5,Ja,Jc,Jd,Je,Jf,Jg,Jn,Jr,Js,Jt,Ju,Jv,Jw,Jz,J0,J1,J2,J3,J4,J5,J6,J7,J8,J9,Xa,Xd,Xe,Xf,Xg,Xh,Xi,Xj,Xk,Xl,Xm,Xn,Xo,Xp,Xq,Xr,Xs,Xt,Xu,Xv,Xw,Xx,Xy,Xz,X0,X1,X2,X3,X4,X5,X6,X7,X8,X9,Wa,Wb,Wc,Wf,Wg,Wh,Wi,Wj,Wl,Wm,Wn,Wo,Wp,Wq,Wr,Ws,Wt,Wu,Wv,Ww,Wx,Wy,Wz,W0,W3,W4,W5,W6,W7,W8,W9,Ya,Yb,Yc,Yf,Yg,Yh,Yi,Yj,Yk,Yl,Ym,Yn,Yo,Yp,Yq,Yr,Ys,Yt,Yu,Yv,Yw,Yx,Yy,Yz,Y0,Y1,Y2,Y3,Y4,Y5,Y6,Y7,Y8,Y9,Va,Vb,Vc,Vd,Ve,Vf,Vg,Vh,Vi,Vj,Vk,Vl,Vm,Vn,Vo,Vp,Vq,Vr,Vs,Vt,Vu,Vv,Vw,Vx,Vy,Vz,V0,V1,V2,V3,V4,V5,V6,V7,V8,V9,Ua,Ub,Uc,Ud,Ue,Uf,Ug,Uh,Ui,Uj,Uk,Ul,Um,Un,Uo,Up,Us,Ut,Uu,Uv,Uw,Ux,Uy,Uz,U0,U1,U2,U3,U4,U5,U6,U7,U8,U9,Ka,Kb,Kc,Kd,Ke,Kf,Kg,Kh,Ki,Kj,Kk,Kl,Km,Kn,Ko,Kq,Kr,Ks,Kt,Ku,K1,K2,K3,K4,K5,K6,K7,Ga,Gx,Hd,Hb,Gq,Gy,Gp,Nl]
             tactic =>
              try simp only [Gl] at *
              try simp only [nc2] at *
              try simp (maxSteps := 4000000) only [hrb,hlb,q1,q2,hk1,hbl1,hbl,Gg,szM,G4]
              repeat' (first | with_reducible assumption | with_reducible refine And.intro ?_ ?_ | intro _ | omega | (rw [Gb]; omega))
              all_goals first
                | (with_reducible refine G7 ?_; kernel_rfl)
                | omega
                | exact ⟨k + 1, by rw [hb2, hnx1]; ((try simp only [Gd, Gj, Gi, Gs, upd, Gt, G5, Hn, Nat.reduceDiv, Nat.reduceMod, Nat.reduceMul, Nat.reduceAdd, Nat.reduceEqDiff, List.set_cons_zero, List.set_cons_succ, if_true, if_false, reduceIte]); (first | refine Wk.of_fl ?_ | skip); simp only [Wk, wkK, Ht, wkT, wk1, AV.kept, keptAll, wkO, lk, Ge, and_true, true_and, and_self, Nat.reduceEqDiff, Nat.reduceLeDiff, if_true, if_false, reduceIte, reduceCtorEq, Option.isSome, false_implies]; try simp [Wk, wkK, wkT, wk1, AV.kept, keptAll, wkO, lk, Ge]), by omega, by omega⟩
                | skip)
          | false =>
            rw [hc1, cond_false] at hnx1
            obtain ⟨c1, hcc⟩ : ∃ c1, b1.getD k false = c1 := ⟨_, rfl⟩
            rw [hcc] at q2 hc1
            obtain ⟨c2, hcd⟩ : ∃ c2, ((k : Int) != i) = c2 := ⟨_, rfl⟩
            rw [hcd] at hc1
            have inner : True := trivial
            cases c2 with
            | true =>
              have hc1' : c1 = true := by simpa using hc1
              subst hc1'
              (sym =>
               simp [hrb,hlb,q1,q2,hcd,hbl1,hbl,Gg,szM,Np,Nr,Nq,Ns,Nn,Nm,G9.eq_def,Gr.eq_def,Za,Zb,Zc,Zd,Ze,Zf,Zg,Zn,Zo,Zp,Zq,Zr,Zs,Zt,Zv,Zw,Zx,Zy,Z2,Z5,Z7,Z8,Z9,Qa,Qb,Qc,Qd,Qe,Qf,Qi,Qj,Qk,Ql,Qm,Qn,Qo,Qq,Qw,Qx,Qz,Q3,Q4,Q5,Ja,Jc,Jd,Je,Jf,Jg,Jn,Jr,Js,Jt,Ju,Jv,Jw,Jz,J0,J1,J2,J3,J4,J5,J6,J7,J8,J9,Xa,Xd,Xe,Xf,Xg,Xh,Xi,Xj,Xk,Xl,Xm,Xn,Xo,Xp,Xq,Xr,Xs,Xt,Xu,Xv,Xw,Xx,Xy,Xz,X0,X1,X2,X3,X4,X5,X6,X7,X8,X9,Wa,Wb,Wc,Wf,Wg,Wh,Wi,Wj,Wl,Wm,Wn,Wo,Wp,Wq,Wr,Ws,Wt,Wu,Wv,Ww,Wx,Wy,Wz,W0,W3,W4,W5,W6,W7,W8,W9,Ya,Yb,Yc,Yf,Yg,Yh,Yi,Yj,Yk,Yl,Ym,Yn,Yo,Yp,Yq,Yr,Ys,Yt,Yu,Yv,Yw,Yx,Yy,Yz,Y0,Y1,Y2,Y3,Y4,Y5,Y6,Y7,Y8,Y9,Va,Vb,Vc,Vd,Ve,Vf,Vg,Vh,Vi,Vj,Vk,Vl,Vm,Vn,Vo,Vp,Vq,Vr,Vs,Vt,Vu,Vv,Vw,Vx,Vy,Vz,V0,V1,V2,V3,V4,V5,V6,V7,V8,V9,Ua,Ub,Uc,Ud,Ue,Uf,Ug,Uh,Ui,Uj,Uk,Ul,Um,Un,Uo,Up,Us,Ut,Uu,Uv,Uw,Ux,Uy,Uz,U0,U1,U2,U3,U4,U5,U6,U7,U8,U9,Ka,Kb,Kc,Kd,Ke,Kf,Kg,Kh,Ki,Kj,Kk,Kl,Km,Kn,Ko,Kq,Kr,Ks,Kt,Ku,K1,K2,K3,K4,K5,K6,K7,Ga,Gx,Hd,Hb,Gq,Gy,Gp,Nl]
               tactic =>
                try simp only [Gl] at *
                try simp only [nc2] at *
                try simp (maxSteps := 4000000) only [hrb,hlb,q1,q2,hcd,hbl1,hbl,Gg,szM,G4]
                repeat' (first | with_reducible assumption | with_reducible refine And.intro ?_ ?_ | intro _ | omega | (rw [Gb]; omega))
                refine Ha [9, 35, 36, 37, 38, 39, 40, 41, 42, 43, 44, 45, 46, 47, 48, 49, 50, 51, 52, 53, 54, 55, 56, 57, 58, 59] (fun j : Nat => [(8, .d (.int .i64 j))]) (fun j : Nat => [(12, .row 1 ((Dm l b1 (x.imps.take j)).map enc) 0)]) (fun j : Nat => j ≤ x.imps.length) (fun j : Nat => x.imps.length - j) 0 ?_ ?_ ?_
                · omega
                · ((try simp only [Gd, Gj, Gi, Gs, upd, Gt, G5, Hn, Nat.reduceDiv, Nat.reduceMod, Nat.reduceMul, Nat.reduceAdd, Nat.reduceEqDiff, List.set_cons_zero, List.set_cons_succ, if_true, if_false, reduceIte]); (first | refine Wk.of_fl ?_ | skip); simp only [Wk, wkK, Ht, wkT, wk1, AV.kept, keptAll, wkO, lk, Ge, and_true, true_and, and_self, Nat.reduceEqDiff, Nat.reduceLeDiff, if_true, if_false, reduceIte, reduceCtorEq, Option.isSome, false_implies]; try simp [Wk, wkK, wkT, wk1, AV.kept, keptAll, wkO, lk, Ge, Dm])
                rintro j hj
                have hbl3 := I2 (l := l) (ss := x.imps.take j) (b := b1)
                obtain ⟨b3, hb3⟩ : ∃ b, Dm l b1 (x.imps.take j) = b := ⟨_, rfl⟩
                rw [hb3] at hbl3 ⊢
                rcases Hg j x.imps.length with ⟨hjl, hjb⟩ | ⟨hjl, hjb⟩
                · have q3 := Hp ([] : List UInt8) hjl
                  have hsn := marks_snoc (l := l) (b := b1) hjl
                  rw [hb3] at hsn
                  obtain ⟨y, hy⟩ : ∃ y, x.imps.getD j [] = y := ⟨_, rfl⟩
                  rw [hy] at q3 hsn
                  unfold mk1 at hsn
                  cases hfn : Hr l y with
                  | none =>
                    have hz : Hm l y = -1 := by unfold Hm; rw [hfn]
                    rw [hfn] at hsn
                    simp only at hsn
                    (sym =>
                     simp [hrb,hlb,hjb,q1,q3,hz,hbl1,hbl,hbl3,Gg,szM,Np,Nr,Nq,Ns,Nn,Nm,G9.eq_def,Gr.eq_def,Za,Zb,Zc,Zd,Ze,Zf,Zg,Zn,Zo,Zp,Zq,Zr,Zs,Zt,Zv,Zw,Zx,Zy,Z2,Z5,Z7,Z8,Z9,Qa,Qb,Qc,Qd,Qe,Qf,Qi,Qj,Qk,Ql,Qm,Qn,Qo,Qq,Qw,Qx,Qz,Q3,Q4,Q5,Ja,Jc,Jd,Je,Jf,Jg,Jn,Jr,Js,Jt,Ju,Jv,Jw,Jz,J0,J1,J2,J3,J4,J5,J6,J7,J8,J9,Xa,Xd,Xe,Xf,Xg,Xh,Xi,Xj,Xk,Xl,Xm,Xn,Xo,Xp,Xq,Xr,Xs,Xt,Xu,Xv,Xw,Xx,Xy,Xz,X0,X1,X2,X3,X4,X5,X6,X7,X8,X9,Wa,Wb,Wc,Wf,Wg,Wh,Wi,Wj,Wl,Wm,Wn,Wo,Wp,Wq,Wr,Ws,Wt,Wu,Wv,Ww,Wx,Wy,Wz,W0,W3,W4,W5,W6,W7,W8,W9,Ya,Yb,Yc,Yf,Yg,Yh,Yi,Yj,Yk,Yl,Ym,Yn,Yo,Yp,Yq,Yr,Ys,Yt,Yu,Yv,Yw,Yx,Yy,Yz,Y0,Y1,Y2,Y3,Y4,Y5,Y6,Y7,Y8,Y9,Va,Vb,Vc,Vd,Ve,Vf,Vg,Vh,Vi,Vj,Vk,Vl,Vm,Vn,Vo,Vp,Vq,Vr,Vs,Vt,Vu,Vv,Vw,Vx,Vy,Vz,V0,V1,V2,V3,V4,V5,V6,V7,V8,V9,Ua,Ub,Uc,Ud,Ue,Uf,Ug,Uh,Ui,Uj,Uk,Ul,Um,Un,Uo,Up,Us,Ut,Uu,Uv,Uw,Ux,Uy,Uz,U0,U1,U2,U3,U4,U5,U6,U7,U8,U9,Ka,Kb,Kc,Kd,Ke,Kf,Kg,Kh,Ki,Kj,Kk,Kl,Km,Kn,Ko,Kq,Kr,Ks,Kt,Ku,K1,K2,K3,K4,K5,K6,K7,Ga,Gx,Hd,Hb,Gq,Gy,Gp,Nl]
                     tactic =>
                      try simp only [Gl] at *
                      try simp only [nc2] at *
                      try simp (maxSteps := 4000000) only [hrb,hlb,hjb,q1,q3,hz,hbl1,hbl,hbl3,Gg,szM,G4]
                      repeat' (first | with_reducible assumption | with_reducible refine And.intro ?_ ?_ | intro _ | omega | (rw [Gb]; omega))
                      all_goals first
                        | (with_reducible refine G7 ?_; kernel_rfl)
                        | omega
                        | exact ⟨j + 1, by rw [hsn]; ((try simp only [Gd, Gj, Gi, Gs, upd, Gt, G5, Hn, Nat.reduceDiv, Nat.reduceMod, Nat.reduceMul, Nat.reduceAdd, Nat.reduceEqDiff, List.set_cons_zero, List.set_cons_succ, if_true, if_false, reduceIte]); (first | refine Wk.of_fl ?_ | skip); simp only [Wk, wkK, Ht, wkT, wk1, AV.kept, keptAll, wkO, lk, Ge, and_true, true_and, and_self, Nat.reduceEqDiff, Nat.reduceLeDiff, if_true, if_false, reduceIte, reduceCtorEq, Option.isSome, false_implies]; try simp [Wk, wkK, wkT, wk1, AV.kept, keptAll, wkO, lk, Ge]), by omega, by omega⟩
                        | skip)
                  | some p =>
                    have hz : Hm l y = p := by unfold Hm; rw [hfn]
                    have hpl := Mr hfn
                    have hp0 : leB 0 (p : Int) = true := by rw [Ss]; omega
                    rw [hfn] at hsn
                    simp only at hsn
                    have hms := map_setB (b := b3) (n := p)
                    have q4 := Hp false (show p < b3.length by omega)
                    obtain ⟨bv, hbv⟩ : ∃ v, b3.getD p false = v := ⟨_, rfl⟩
                    rw [hbv] at q4
                    (sym =>
                     simp [hrb,hlb,hjb,q1,q3,hz,hp0,hbl1,hbl,hbl3,q4,Gg,szM,Np,Nr,Nq,Ns,Nn,Nm,G9.eq_def,Gr.eq_def,Za,Zb,Zc,Zd,Ze,Zf,Zg,Zn,Zo,Zp,Zq,Zr,Zs,Zt,Zv,Zw,Zx,Zy,Z2,Z5,Z7,Z8,Z9,Qa,Qb,Qc,Qd,Qe,Qf,Qi,Qj,Qk,Ql,Qm,Qn,Qo,Qq,Qw,Qx,Qz,Q3,Q4,Q5,Ja,Jc,Jd,Je,Jf,Jg,Jn,Jr,Js,Jt,Ju,Jv,Jw,Jz,J0,J1,J2,J3,J4,J5,J6,J7,J8,J9,Xa,Xd,Xe,Xf,Xg,Xh,Xi,Xj,Xk,Xl,Xm,Xn,Xo,Xp,Xq,Xr,Xs,Xt,Xu,Xv,Xw,Xx,Xy,Xz,X0,X1,X2,X3,X4,X5,X6,X7,X8,X9,Wa,Wb,Wc,Wf,Wg,Wh,Wi,Wj,Wl,Wm,Wn,Wo,Wp,Wq,Wr,Ws,Wt,Wu,Wv,Ww,Wx,Wy,Wz,W0,W3,W4,W5,W6,W7,W8,W9,Ya,Yb,Yc,Yf,Yg,Yh,Yi,Yj,Yk,Yl,Ym,Yn,Yo,Yp,Yq,Yr,Ys,Yt,Yu,Yv,Yw,Yx,Yy,Yz,Y0,Y1,Y2,Y3,Y4,Y5,Y6,Y7,Y8,Y9,Va,Vb,Vc,Vd,Ve,Vf,Vg,Vh,Vi,Vj,Vk,Vl,Vm,Vn,Vo,Vp,Vq,Vr,Vs,Vt,Vu,Vv,Vw,Vx,Vy,Vz,V0,V1,V2,V3,V4,V5,V6,V7,V8,V9,Ua,Ub,Uc,Ud,Ue,Uf,Ug,Uh,Ui,Uj,Uk,Ul,Um,Un,Uo,Up,Us,Ut,Uu,Uv,Uw,Ux,Uy,Uz,U0,U1,U2,U3,U4,U5,U6,U7,U8,U9,Ka,Kb,Kc,Kd,Ke,Kf,Kg,Kh,Ki,Kj,Kk,Kl,Km,Kn,Ko,Kq,Kr,Ks,Kt,Ku,K1,K2,K3,K4,K5,K6,K7,Ga,Gx,Hd,Hb,Gq,Gy,Gp,Nl]
                     tactic =>
                      try simp only [Gl] at *
                      try simp only [nc2] at *
                      try simp (maxSteps := 4000000) only [hrb,hlb,hjb,q1,q3,hz,hp0,hbl1,hbl,hbl3,q4,Gg,szM,G4]
                      repeat' (first | with_reducible assumption | with_reducible refine And.intro ?_ ?_ | intro _ | omega | (rw [Gb]; omega))
                      all_goals first
                        | (with_reducible refine G7 ?_; kernel_rfl)
                        | omega
                        | exact ⟨j + 1, by rw [hsn, ← hms]; ((try simp only [Gd, Gj, Gi, Gs, upd, Gt, G5, Hn, Nat.reduceDiv, Nat.reduceMod, Nat.reduceMul, Nat.reduceAdd, Nat.reduceEqDiff, List.set_cons_zero, List.set_cons_succ, if_true, if_false, reduceIte]); (first | refine Wk.of_fl ?_ | skip); simp only [Wk, wkK, Ht, wkT, wk1, AV.kept, keptAll, wkO, lk, Ge, and_true, true_and, and_self, Nat.reduceEqDiff, Nat.reduceLeDiff, if_true, if_false, reduceIte, reduceCtorEq, Option.isSome, false_implies]; try simp [Wk, wkK, wkT, wk1, AV.kept, keptAll, wkO, lk, Ge]), by omega, by omega⟩
                        | skip)
                · have hje : j = x.imps.length := by omega
                  rw [hje, List.take_length] at hb3
                  rw [hb3] at hnx1
                  (sym =>
                   simp [hrb,hlb,hjb,q1,hbl1,hbl,hbl3,Gg,szM,Np,Nr,Nq,Ns,Nn,Nm,G9.eq_def,Gr.eq_def,Za,Zb,Zc,Zd,Ze,Zf,Zg,Zn,Zo,Zp,Zq,Zr,Zs,Zt,Zv,Zw,Zx,Zy,Z2,Z5,Z7,Z8,Z9,Qa,Qb,Qc,Qd,Qe,Qf,Qi,Qj,Qk,Ql,Qm,Qn,Qo,Qq,Qw,Qx,Qz,Q3,Q4,Q5,Ja,Jc,Jd,Je,Jf,Jg,Jn,Jr,Js,Jt,Ju,Jv,Jw,Jz,J0,J1,J2,J3,J4,J5,J6,J7,J8,J9,Xa,Xd,Xe,Xf,Xg,Xh,Xi,Xj,Xk,Xl,Xm,Xn,Xo,Xp,Xq,Xr,Xs,Xt,Xu,Xv,Xw,Xx,Xy,Xz,X0,X1,X2,X3,X4,X5,X6,X7,X8,X9,Wa,Wb,Wc,Wf,Wg,Wh,Wi,Wj,Wl,Wm,Wn,Wo,Wp,Wq,Wr,Ws,Wt,Wu,Wv,Ww,Wx,Wy,Wz,W0,W3,W4,W5,W6,W7,W8,W9,Ya,Yb,Yc,Yf,Yg,Yh,Yi,Yj,Yk,Yl,Ym,Yn,Yo,Yp,Yq,Yr,Ys,Yt,Yu,Yv,Yw,Yx,Yy,Yz,Y0,Y1,Y2,Y3,Y4,Y5,Y6,Y7,Y8,Y9,Va,Vb,Vc,Vd,Ve,Vf,Vg,Vh,Vi,Vj,Vk,Vl,Vm,Vn,Vo,Vp,Vq,Vr,Vs,Vt,Vu,Vv,Vw,Vx,Vy,Vz,V0,V1,V2,V3,V4,V5,V6,V7,V8,V9,Ua,Ub,Uc,Ud,Ue,Uf,Ug,Uh,Ui,Uj,Uk,Ul,Um,Un,Uo,Up,Us,Ut,Uu,Uv,Uw,Ux,Uy,Uz,U0,U1,U2,U3,U4,U5,U6,U7,U8,U9,Ka,Kb,Kc,Kd,Ke,Kf,Kg,Kh,Ki,Kj,Kk,Kl,Km,Kn,Ko,Kq,Kr,Ks,Kt,Ku,K1,K2,K3,K4,K5,K6,K7,Ga,Gx,Hd,Hb,Gq,Gy,Gp,Nl]
                   tactic =>
                    try simp only [Gl] at *
                    try simp only [nc2] at *
                    try simp (maxSteps := 4000000) only [hrb,hlb,hjb,q1,hbl1,hbl,hbl3,Gg,szM,G4]
                    repeat' (first | with_reducible assumption | with_reducible refine And.intro ?_ ?_ | intro _ | omega | (rw [Gb]; omega))
                    all_goals first
                      | (with_reducible refine G7 ?_; kernel_rfl)
                      | omega
                      | exact ⟨k + 1, by rw [hb2, hnx1]; ((try simp only [Gd, Gj, Gi, Gs, upd, Gt, G5, Hn, Nat.reduceDiv, Nat.reduceMod, Nat.reduceMul, Nat.reduceAdd, Nat.reduceEqDiff, List.set_cons_zero, List.set_cons_succ, if_true, if_false, reduceIte]); (first | refine Wk.of_fl ?_ | skip); simp only [Wk, wkK, Ht, wkT, wk1, AV.kept, keptAll, wkO, lk, Ge, and_true, true_and, and_self, Nat.reduceEqDiff, Nat.reduceLeDiff, if_true, if_false, reduceIte, reduceCtorEq, Option.isSome, false_implies]; try simp [Wk, wkK, wkT, wk1, AV.kept, keptAll, wkO, lk, Ge]), by omega, by omega⟩
                      | skip))
            | false =>
              (sym =>
               simp [hrb,hlb,q1,q2,hcd,hbl1,hbl,Gg,szM,Np,Nr,Nq,Ns,Nn,Nm,G9.eq_def,Gr.eq_def,Za,Zb,Zc,Zd,Ze,Zf,Zg,Zn,Zo,Zp,Zq,Zr,Zs,Zt,Zv,Zw,Zx,Zy,Z2,Z5,Z7,Z8,Z9,Qa,Qb,Qc,Qd,Qe,Qf,Qi,Qj,Qk,Ql,Qm,Qn,Qo,Qq,Qw,Qx,Qz,Q3,Q4,Q5,Ja,Jc,Jd,Je,Jf,Jg,Jn,Jr,Js,Jt,Ju,Jv,Jw,Jz,J0,J1,J2,J3,J4,J5,J6,J7,J8,J9,Xa,Xd,Xe,Xf,Xg,Xh,Xi,Xj,Xk,Xl,Xm,Xn,Xo,Xp,Xq,Xr,Xs,Xt,Xu,Xv,Xw,Xx,Xy,Xz,X0,X1,X2,X3,X4,X5,X6,X7,X8,X9,Wa,Wb,Wc,Wf,Wg,Wh,Wi,Wj,Wl,Wm,Wn,Wo,Wp,Wq,Wr,Ws,Wt,Wu,Wv,Ww,Wx,Wy,Wz,W0,W3,W4,W5,W6,W7,W8,W9,Ya,Yb,Yc,Yf,Yg,Yh,Yi,Yj,Yk,Yl,Ym,Yn,Yo,Yp,Yq,Yr,Ys,Yt,Yu,Yv,Yw,Yx,Yy,Yz,Y0,Y1,Y2,Y3,Y4,Y5,Y6,Y7,Y8,Y9,Va,Vb,Vc,Vd,Ve,Vf,Vg,Vh,Vi,Vj,Vk,Vl,Vm,Vn,Vo,Vp,Vq,Vr,Vs,Vt,Vu,Vv,Vw,Vx,Vy,Vz,V0,V1,V2,V3,V4,V5,V6,V7,V8,V9,Ua,Ub,Uc,Ud,Ue,Uf,Ug,Uh,Ui,Uj,Uk,Ul,Um,Un,Uo,Up,Us,Ut,Uu,Uv,Uw,Ux,Uy,Uz,U0,U1,U2,U3,U4,U5,U6,U7,U8,U9,Ka,Kb,Kc,Kd,Ke,Kf,Kg,Kh,Ki,Kj,Kk,Kl,Km,Kn,Ko,Kq,Kr,Ks,Kt,Ku,K1,K2,K3,K4,K5,K6,K7,Ga,Gx,Hd,Hb,Gq,Gy,Gp,Nl]
               tactic =>
                try simp only [Gl] at *
                try simp only [nc2] at *
                try simp (maxSteps := 4000000) only [hrb,hlb,q1,q2,hcd,hbl1,hbl,Gg,szM,G4]
                repeat' (first | with_reducible assumption | with_reducible refine And.intro ?_ ?_ | intro _ | omega | (rw [Gb]; omega))
                refine Ha [9, 35, 36, 37, 38, 39, 40, 41, 42, 43, 44, 45, 46, 47, 48, 49, 50, 51, 52, 53, 54, 55, 56, 57, 58, 59] (fun j : Nat => [(8, .d (.int .i64 j))]) (fun j : Nat => [(12, .row 1 ((Dm l b1 (x.imps.take j)).map enc) 0)]) (fun j : Nat => j ≤ x.imps.length) (fun j : Nat => x.imps.length - j) 0 ?_ ?_ ?_
                · omega
                · ((try simp only [Gd, Gj, Gi, Gs, upd, Gt, G5, Hn, Nat.reduceDiv, Nat.reduceMod, Nat.reduceMul, Nat.reduceAdd, Nat.reduceEqDiff, List.set_cons_zero, List.set_cons_succ, if_true, if_false, reduceIte]); (first | refine Wk.of_fl ?_ | skip); simp only [Wk, wkK, Ht, wkT, wk1, AV.kept, keptAll, wkO, lk, Ge, and_true, true_and, and_self, Nat.reduceEqDiff, Nat.reduceLeDiff, if_true, if_false, reduceIte, reduceCtorEq, Option.isSome, false_implies]; try simp [Wk, wkK, wkT, wk1, AV.kept, keptAll, wkO, lk, Ge, Dm])
                rintro j hj
                have hbl3 := I2 (l := l) (ss := x.imps.take j) (b := b1)
                obtain ⟨b3, hb3⟩ : ∃ b, Dm l b1 (x.imps.take j) = b := ⟨_, rfl⟩
                rw [hb3] at hbl3 ⊢
                rcases Hg j x.imps.length with ⟨hjl, hjb⟩ | ⟨hjl, hjb⟩
                · have q3 := Hp ([] : List UInt8) hjl
                  have hsn := marks_snoc (l := l) (b := b1) hjl
                  rw [hb3] at hsn
                  obtain ⟨y, hy⟩ : ∃ y, x.imps.getD j [] = y := ⟨_, rfl⟩
                  rw [hy] at q3 hsn
                  unfold mk1 at hsn
                  cases hfn : Hr l y with
                  | none =>
                    have hz : Hm l y = -1 := by unfold Hm; rw [hfn]
                    rw [hfn] at hsn
                    simp only at hsn
                    (sym =>
                     simp [hrb,hlb,hjb,q1,q3,hz,hbl1,hbl,hbl3,Gg,szM,Np,Nr,Nq,Ns,Nn,Nm,G9.eq_def,Gr.eq_def,Za,Zb,Zc,Zd,Ze,Zf,Zg,Zn,Zo,Zp,Zq,Zr,Zs,Zt,Zv,Zw,Zx,Zy,Z2,Z5,Z7,Z8,Z9,Qa,Qb,Qc,Qd,Qe,Qf,Qi,Qj,Qk,Ql,Qm,Qn,Qo,Qq,Qw,Qx,Qz,Q3,Q4,Q5,Ja,Jc,Jd,Je,Jf,Jg,Jn,Jr,Js,Jt,Ju,Jv,Jw,Jz,J0,J1,J2,J3,J4,J5,J6,J7,J8,J9,Xa,Xd,Xe,Xf,Xg,Xh,Xi,Xj,Xk,Xl,Xm,Xn,Xo,Xp,Xq,Xr,Xs,Xt,Xu,Xv,Xw,Xx,Xy,Xz,X0,X1,X2,X3,X4,X5,X6,X7,X8,X9,Wa,Wb,Wc,Wf,Wg,Wh,Wi,Wj,Wl,Wm,Wn,Wo,Wp,Wq,Wr,Ws,Wt,Wu,Wv,Ww,Wx,Wy,Wz,W0,W3,W4,W5,W6,W7,W8,W9,Ya,Yb,Yc,Yf,Yg,Yh,Yi,Yj,Yk,Yl,Ym,Yn,Yo,Yp,Yq,Yr,Ys,Yt,Yu,Yv,Yw,Yx,Yy,Yz,Y0,Y1,Y2,Y3,Y4,Y5,Y6,Y7,Y8,Y9,Va,Vb,Vc,Vd,Ve,Vf,Vg,Vh,Vi,Vj,Vk,Vl,Vm,Vn,Vo,Vp,Vq,Vr,Vs,Vt,Vu,Vv,Vw,Vx,Vy,Vz,V0,V1,V2,V3,V4,V5,V6,V7,V8,V9,Ua,Ub,Uc,Ud,Ue,Uf,Ug,Uh,Ui,Uj,Uk,Ul,Um,Un,Uo,Up,Us,Ut,Uu,Uv,Uw,Ux,Uy,Uz,U0,U1,U2,U3,U4,U5,U6,U7,U8,U9,Ka,Kb,Kc,Kd,Ke,Kf,Kg,Kh,Ki,Kj,Kk,Kl,Km,Kn,Ko,Kq,Kr,Ks,Kt,Ku,K1,K2,K3,K4,K5,K6,K7,Ga,Gx,Hd,Hb,Gq,Gy,Gp,Nl]
                     tactic =>
                      try simp only [Gl] at *
                      try simp only [nc2] at *
                      try simp (maxSteps := 4000000) only [hrb,hlb,hjb,q1,q3,hz,hbl1,hbl,hbl3,Gg,szM,G4]
                      repeat' (first | with_reducible assumption | with_reducible refine And.intro ?_ ?_ | intro _ | omega | (rw [Gb]; omega))
                      all_goals first
                        | (with_reducible refine G7 ?_; kernel_rfl)
                        | omega
                        | exact ⟨j + 1, by rw [hsn]; ((try simp only [Gd, Gj, Gi, Gs, upd, Gt, G5, Hn, Nat.reduceDiv, Nat.reduceMod, Nat.reduceMul, Nat.reduceAdd, Nat.reduceEqDiff, List.set_cons_zero, List.set_cons_succ, if_true, if_false, reduceIte]); (first | refine Wk.of_fl ?_ | skip); simp only [Wk, wkK, Ht, wkT, wk1, AV.kept, keptAll, wkO, lk, Ge, and_true, true_and, and_self, Nat.reduceEqDiff, Nat.reduceLeDiff, if_true, if_false, reduceIte, reduceCtorEq, Option.isSome, false_implies]; try simp [Wk, wkK, wkT, wk1, AV.kept, keptAll, wkO, lk, Ge]), by omega, by omega⟩
                        | skip)
                  | some p =>
                    have hz : Hm l y = p := by unfold Hm; rw [hfn]
                    have hpl := Mr hfn
                    have hp0 : leB 0 (p : Int) = true := by rw [Ss]; omega
                    rw [hfn] at hsn
                    simp only at hsn
                    have hms := map_setB (b := b3) (n := p)
                    have q4 := Hp false (show p < b3.length by omega)
                    obtain ⟨bv, hbv⟩ : ∃ v, b3.getD p false = v := ⟨_, rfl⟩
                    rw [hbv] at q4
                    (sym =>
                     simp [hrb,hlb,hjb,q1,q3,hz,hp0,hbl1,hbl,hbl3,q4,Gg,szM,Np,Nr,Nq,Ns,Nn,Nm,G9.eq_def,Gr.eq_def,Za,Zb,Zc,Zd,Ze,Zf,Zg,Zn,Zo,Zp,Zq,Zr,Zs,Zt,Zv,Zw,Zx,Zy,Z2,Z5,Z7,Z8,Z9,Qa,Qb,Qc,Qd,Qe,Qf,Qi,Qj,Qk,Ql,Qm,Qn,Qo,Qq,Qw,Qx,Qz,Q3,Q4,Q5,Ja,Jc,Jd,Je,Jf,Jg,Jn,Jr,Js,Jt,Ju,Jv,Jw,Jz,J0,J1,J2,J3,J4,J5,J6,J7,J8,J9,Xa,Xd,Xe,Xf,Xg,Xh,Xi,Xj,Xk,Xl,Xm,Xn,Xo,Xp,Xq,Xr,Xs,Xt,Xu,Xv,Xw,Xx,Xy,Xz,X0,X1,X2,X3,X4,X5,X6,X7,X8,X9,Wa,Wb,Wc,Wf,Wg,Wh,Wi,Wj,Wl,Wm,Wn,Wo,Wp,Wq,Wr,Ws,Wt,Wu,Wv,Ww,Wx,Wy,Wz,W0,W3,W4,W5,W6,W7,W8,W9,Ya,Yb,Yc,Yf,Yg,Yh,Yi,Yj,Yk,Yl,Ym,Yn,Yo,Yp,Yq,Yr,Ys,Yt,Yu,Yv,Yw,Yx,Yy,Yz,Y0,Y1,Y2,Y3,Y4,Y5,Y6,Y7,Y8,Y9,Va,Vb,Vc,Vd,Ve,Vf,Vg,Vh,Vi,Vj,Vk,Vl,Vm,Vn,Vo,Vp,Vq,Vr,Vs,Vt,Vu,Vv,Vw,Vx,Vy,Vz,V0,V1,V2,V3,V4,V5,V6,V7,V8,V9,Ua,Ub,Uc,Ud,Ue,Uf,Ug,Uh,Ui,Uj,Uk,Ul,Um,Un,Uo,Up,Us,Ut,Uu,Uv,Uw,Ux,Uy,Uz,U0,U1,U2,U3,U4,U5,U6,U7,U8,U9,Ka,Kb,Kc,Kd,Ke,Kf,Kg,Kh,Ki,Kj,Kk,Kl,Km,Kn,Ko,Kq,Kr,Ks,Kt,Ku,K1,K2,K3,K4,K5,K6,K7,Ga,Gx,Hd,Hb,Gq,Gy,Gp,Nl]
                     tactic =>
                      try simp only [Gl] at *
                      try simp only [nc2] at *
                      try simp (maxSteps := 4000000) only [hrb,hlb,hjb,q1,q3,hz,hp0,hbl1,hbl,hbl3,q4,Gg,szM,G4]
                      repeat' (first | with_reducible assumption | with_reducible refine And.intro ?_ ?_ | intro _ | omega | (rw [Gb]; omega))
                      all_goals first
                        | (with_reducible refine G7 ?_; kernel_rfl)
                        | omega
                        | exact ⟨j + 1, by rw [hsn, ← hms]; ((try simp only [Gd, Gj, Gi, Gs, upd, Gt, G5, Hn, Nat.reduceDiv, Nat.reduceMod, Nat.reduceMul, Nat.reduceAdd, Nat.reduceEqDiff, List.set_cons_zero, List.set_cons_succ, if_true, if_false, reduceIte]); (first | refine Wk.of_fl ?_ | skip); simp only [Wk, wkK, Ht, wkT, wk1, AV.kept, keptAll, wkO, lk, Ge, and_true, true_and, and_self, Nat.reduceEqDiff, Nat.reduceLeDiff, if_true, if_false, reduceIte, reduceCtorEq, Option.isSome, false_implies]; try simp [Wk, wkK, wkT, wk1, AV.kept, keptAll, wkO, lk, Ge]), by omega, by omega⟩
                        | skip)
                · have hje : j = x.imps.length := by omega
                  rw [hje, List.take_length] at hb3
                  rw [hb3] at hnx1
                  (sym =>
                   simp [hrb,hlb,hjb,q1,hbl1,hbl,hbl3,Gg,szM,Np,Nr,Nq,Ns,Nn,Nm,G9.eq_def,Gr.eq_def,Za,Zb,Zc,Zd,Ze,Zf,Zg,Zn,Zo,Zp,Zq,Zr,Zs,Zt,Zv,Zw,Zx,Zy,Z2,Z5,Z7,Z8,Z9,Qa,Qb,Qc,Qd,Qe,Qf,Qi,Qj,Qk,Ql,Qm,Qn,Qo,Qq,Qw,Qx,Qz,Q3,Q4,Q5,Ja,Jc,Jd,Je,Jf,Jg,Jn,Jr,Js,Jt,Ju,Jv,Jw,Jz,J0,J1,J2,J3,J4,J5,J6,J7,J8,J9,Xa,Xd,Xe,Xf,Xg,Xh,Xi,Xj,Xk,Xl,Xm,Xn,Xo,Xp,Xq,Xr,Xs,Xt,Xu,Xv,Xw,Xx,Xy,Xz,X0,X1,X2,X3,X4,X5,X6,X7,X8,X9,Wa,Wb,Wc,Wf,Wg,Wh,Wi,Wj,Wl,Wm,Wn,Wo,Wp,Wq,Wr,Ws,Wt,Wu,Wv,Ww,Wx,Wy,Wz,W0,W3,W4,W5,W6,W7,W8,W9,Ya,Yb,Yc,Yf,Yg,Yh,Yi,Yj,Yk,Yl,Ym,Yn,Yo,Yp,Yq,Yr,Ys,Yt,Yu,Yv,Yw,Yx,Yy,Yz,Y0,Y1,Y2,Y3,Y4,Y5,Y6,Y7,Y8,Y9,Va,Vb,Vc,Vd,Ve,Vf,Vg,Vh,Vi,Vj,Vk,Vl,Vm,Vn,Vo,Vp,Vq,Vr,Vs,Vt,Vu,Vv,Vw,Vx,Vy,Vz,V0,V1,V2,V3,V4,V5,V6,V7,V8,V9,Ua,Ub,Uc,Ud,Ue,Uf,Ug,Uh,Ui,Uj,Uk,Ul,Um,Un,Uo,Up,Us,Ut,Uu,Uv,Uw,Ux,Uy,Uz,U0,U1,U2,U3,U4,U5,U6,U7,U8,U9,Ka,Kb,Kc,Kd,Ke,Kf,Kg,Kh,Ki,Kj,Kk,Kl,Km,Kn,Ko,Kq,Kr,Ks,Kt,Ku,K1,K2,K3,K4,K5,K6,K7,Ga,Gx,Hd,Hb,Gq,Gy,Gp,Nl]
                   tactic =>
                    try simp only [Gl] at *
                    try simp only [nc2] at *
                    try simp (maxSteps := 4000000) only [hrb,hlb,hjb,q1,hbl1,hbl,hbl3,Gg,szM,G4]
                    repeat' (first | with_reducible assumption | with_reducible refine And.intro ?_ ?_ | intro _ | omega | (rw [Gb]; omega))
                    all_goals first
                      | (with_reducible refine G7 ?_; kernel_rfl)
                      | omega
                      | exact ⟨k + 1, by rw [hb2, hnx1]; ((try simp only [Gd, Gj, Gi, Gs, upd, Gt, G5, Hn, Nat.reduceDiv, Nat.reduceMod, Nat.reduceMul, Nat.reduceAdd, Nat.reduceEqDiff, List.set_cons_zero, List.set_cons_succ, if_true, if_false, reduceIte]); (first | refine Wk.of_fl ?_ | skip); simp only [Wk, wkK, Ht, wkT, wk1, AV.kept, keptAll, wkO, lk, Ge, and_true, true_and, and_self, Nat.reduceEqDiff, Nat.reduceLeDiff, if_true, if_false, reduceIte, reduceCtorEq, Option.isSome, false_implies]; try simp [Wk, wkK, wkT, wk1, AV.kept, keptAll, wkO, lk, Ge]), by omega, by omega⟩
                      | skip))
        · have hkl : k = l.length := by omega
          rw [hkl, ← hnx]
          (sym =>
           simp [hrb,hlb,hkl,szM,Np,Nr,Nq,Ns,Nn,Nm,G9.eq_def,Gr.eq_def,Za,Zb,Zc,Zd,Ze,Zf,Zg,Zn,Zo,Zp,Zq,Zr,Zs,Zt,Zv,Zw,Zx,Zy,Z2,Z5,Z7,Z8,Z9,Qa,Qb,Qc,Qd,Qe,Qf,Qi,Qj,Qk,Ql,Qm,Qn,Qo,Qq,Qw,Qx,Qz,Q3,Q4,Q5,Ja,Jc,Jd,Je,Jf,Jg,Jn,Jr,Js,Jt,Ju,Jv,Jw,Jz,J0,J1,J2,J3,J4,J5,J6,J7,J8,J9,Xa,Xd,Xe,Xf,Xg,Xh,Xi,Xj,Xk,Xl,Xm,Xn,Xo,Xp,Xq,Xr,Xs,Xt,Xu,Xv,Xw,Xx,Xy,Xz,X0,X1,X2,X3,X4,X5,X6,X7,X8,X9,Wa,Wb,Wc,Wf,Wg,Wh,Wi,Wj,Wl,Wm,Wn,Wo,Wp,Wq,Wr,Ws,Wt,Wu,Wv,Ww,Wx,Wy,Wz,W0,W3,W4,W5,W6,W7,W8,W9,Ya,Yb,Yc,Yf,Yg,Yh,Yi,Yj,Yk,Yl,Ym,Yn,Yo,Yp,Yq,Yr,Ys,Yt,Yu,Yv,Yw,Yx,Yy,Yz,Y0,Y1,Y2,Y3,Y4,Y5,Y6,Y7,Y8,Y9,Va,Vb,Vc,Vd,Ve,Vf,Vg,Vh,Vi,Vj,Vk,Vl,Vm,Vn,Vo,Vp,Vq,Vr,Vs,Vt,Vu,Vv,Vw,Vx,Vy,Vz,V0,V1,V2,V3,V4,V5,V6,V7,V8,V9,Ua,Ub,Uc,Ud,Ue,Uf,Ug,Uh,Ui,Uj,Uk,Ul,Um,Un,Uo,Up,Us,Ut,Uu,Uv,Uw,Ux,Uy,Uz,U0,U1,U2,U3,U4,U5,U6,U7,U8,U9,Ka,Kb,Kc,Kd,Ke,Kf,Kg,Kh,Ki,Kj,Kk,Kl,Km,Kn,Ko,Kq,Kr,Ks,Kt,Ku,K1,K2,K3,K4,K5,K6,K7,Ga,Gx,Hd,Hb,Gq,Gy,Gp,Nl]
           tactic =>
            try simp only [Gl] at *
            try simp only [nc2] at *
            try simp (maxSteps := 4000000) only [hrb,hlb,hkl,szM,G4]
            repeat' (first | with_reducible assumption | with_reducible refine And.intro ?_ ?_ | intro _ | omega | (rw [Gb]; omega))
            all_goals first
              | (with_reducible refine G7 ?_; kernel_rfl)
              | omega
              | exact ⟨r + 1, by ((try simp only [Gd, Gj, Gi, Gs, upd, Gt, G5, Hn, Nat.reduceDiv, Nat.reduceMod, Nat.reduceMul, Nat.reduceAdd, Nat.reduceEqDiff, List.set_cons_zero, List.set_cons_succ, if_true, if_false, reduceIte]); (first | refine Wk.of_fl ?_ | skip); simp only [Wk, wkK, Ht, wkT, wk1, AV.kept, keptAll, wkO, lk, Ge, and_true, true_and, and_self, Nat.reduceEqDiff, Nat.reduceLeDiff, if_true, if_false, reduceIte, reduceCtorEq, Option.isSome, false_implies]; try simp [Wk, wkK, wkT, wk1, AV.kept, keptAll, wkO, lk, Ge]), by omega, by omega⟩
              | skip))
    · have hrl' : r = l.length + 1 := by omega
      have hrb : leB (r : Int) (l.length : Int) = false := by rw [P5]; omega
      have hre : H2 l i = b0 := by unfold H2; rw [← hrl', hb0]
      rw [hb0] at hbl
      rw [hb0]
      (sym =>
       simp [hrb,hre,hbl,hb0,szM,Np,Nr,Nq,Ns,Nn,Nm,G9.eq_def,Gr.eq_def,Za,Zb,Zc,Zd,Ze,Zf,Zg,Zn,Zo,Zp,Zq,Zr,Zs,Zt,Zv,Zw,Zx,Zy,Z2,Z5,Z7,Z8,Z9,Qa,Qb,Qc,Qd,Qe,Qf,Qi,Qj,Qk,Ql,Qm,Qn,Qo,Qq,Qw,Qx,Qz,Q3,Q4,Q5,Ja,Jc,Jd,Je,Jf,Jg,Jn,Jr,Js,Jt,Ju,Jv,Jw,Jz,J0,J1,J2,J3,J4,J5,J6,J7,J8,J9,Xa,Xd,Xe,Xf,Xg,Xh,Xi,Xj,Xk,Xl,Xm,Xn,Xo,Xp,Xq,Xr,Xs,Xt,Xu,Xv,Xw,Xx,Xy,Xz,X0,X1,X2,X3,X4,X5,X6,X7,X8,X9,Wa,Wb,Wc,Wf,Wg,Wh,Wi,Wj,Wl,Wm,Wn,Wo,Wp,Wq,Wr,Ws,Wt,Wu,Wv,Ww,Wx,Wy,Wz,W0,W3,W4,W5,W6,W7,W8,W9,Ya,Yb,Yc,Yf,Yg,Yh,Yi,Yj,Yk,Yl,Ym,Yn,Yo,Yp,Yq,Yr,Ys,Yt,Yu,Yv,Yw,Yx,Yy,Yz,Y0,Y1,Y2,Y3,Y4,Y5,Y6,Y7,Y8,Y9,Va,Vb,Vc,Vd,Ve,Vf,Vg,Vh,Vi,Vj,Vk,Vl,Vm,Vn,Vo,Vp,Vq,Vr,Vs,Vt,Vu,Vv,Vw,Vx,Vy,Vz,V0,V1,V2,V3,V4,V5,V6,V7,V8,V9,Ua,Ub,Uc,Ud,Ue,Uf,Ug,Uh,Ui,Uj,Uk,Ul,Um,Un,Uo,Up,Us,Ut,Uu,Uv,Uw,Ux,Uy,Uz,U0,U1,U2,U3,U4,U5,U6,U7,U8,U9,Ka,Kb,Kc,Kd,Ke,Kf,Kg,Kh,Ki,Kj,Kk,Kl,Km,Kn,Ko,Kq,Kr,Ks,Kt,Ku,K1,K2,K3,K4,K5,K6,K7,Ga,Gx,Hd,Hb,Gq,Gy,Gp,Nl]
       tactic =>
        try simp only [Gl] at *
        try simp only [nc2] at *
        try simp (maxSteps := 4000000) only [hrb,hre,hbl,hb0,szM,G4]
        repeat' (first | with_reducible assumption | with_reducible refine And.intro ?_ ?_ | intro _ | omega | (rw [Gb]; omega))
        all_goals first
          | trivial
          | rfl
          | skip))
def Dl (i : Int) (b : List Bool) : Nat → List Int
  | 0 => []
  | k + 1 => Dl i b k ++ cond (b.getD k false || ((k : Int) == i)) [(k : Int)] []
theorem needN_len (i : Int) (b : List Bool) : ∀ k, (Dl i b k).length ≤ k
  | 0 => Nat.le_refl _
  | k + 1 => by
    have := needN_len i b k
    rw [Dl, List.length_append]
    cases b.getD k false || ((k : Int) == i) <;> simp <;> omega
def F8 (l : List Mod) (i : Int) : List Int := cond (ltB i 0 || leB (l.length : Int) i) [] (Dl i (H2 l i) l.length)
def M0 : Con := con2 (fun (l : Sl Mod) (_ : Int) => Ph l.l = true) (fun l i => Sl.mk (F8 l.l i))
noncomputable def To : Ctx := ⟨tab, lkC [(29, Gr)], 60, lkB [], [], false⟩
theorem B4 : To.τ = tab := rfl
theorem B6 : To.Γ = lkC [(29, Gr)] := rfl
theorem B5 : To.dp = 60 := rfl
theorem B7 : To.Δ = lkB [] := rfl
theorem B3 : To.cuts = [] := rfl
theorem B2 : To.wr = false := rfl
set_option maxRecDepth 100000 in
theorem good_Needs8 : Ck Try.prog (17, M0) := by
  refine ⟨Hh Try.func17 (by kernel_rfl) rfl, ?_⟩
  have K : Mj Try.prog To := Nj P8 Ny (by
    intro p hp
    simp only [List.mem_cons, List.not_mem_nil, or_false] at hp
    rcases hp with rfl
    · exact Oz) (by simp)
  obtain ⟨c, hc⟩ : ∃ c, Try.f17.body = some c := ⟨_, rfl⟩
  refine Mi K Try.func17 hc [.tmp 4] rfl 41 rfl (fun cvs hpre => ?_)
  change M0.pre cvs at hpre
  unfold M0 at hpre
  obtain ⟨⟨l⟩, i, rfl, hf⟩ := Lw hpre
  simp only at hf
  clear hpre
  have hl20 := Px hf
  obtain ⟨R, hR⟩ : ∃ R, F8 l i = R := ⟨_, rfl⟩
  have hR2 := hR
  unfold F8 at hR2
  have hbl := Mq (l := l) (i := i) (l.length + 1)
  cases h1 : ltB i 0 with
  | true =>
    rw [h1] at hR2
    have hr : R = [] := hR2.symm
    subst hr
    simp only [Try.f17, Option.some.injEq] at hc
    subst hc
    refine Nu 2 (of_decide_eq_true (by kernel_rfl)) ?_
    (sym =>
     simp [h1,hR,szM,B4,B6,B5,B7,B3,B2,M0.eq_def,Gr.eq_def,Za,Zb,Zc,Zd,Ze,Zf,Zg,Zn,Zo,Zp,Zq,Zr,Zs,Zt,Zv,Zy,Z0,Z3,Z4,Z5,Z7,Z8,Z9,Qa,Qb,Qc,Qd,Qe,Qf,Qj,Qk,Ql,Qm,Qn,Qo,Qq,Qw,Qx,Qz,Q3,Q4,Q5,Q6,Q7,Q8,Q9,Ja,Jb,Jc,Jd,Je,Jf,Jg,Jn,Jr,Js,Jt,Ju,Jv,Jw,Jz,J0,J1,J2,J3,J4,J5,J6,J7,J8,J9,Xa,Xb,Xc,Xd,Xe,Xf,Xg,Xh,Xi,Xj,Xk,Xl,Xm,Xn,Xo,Xp,Xq,Xr,Xs,Xu,Xv,Xw,Xx,Xy,Xz,X0,X1,X2,X3,X4,X5,X6,X7,X8,X9,Wa,Wb,Wc,Wf,Wg,Wh,Wi,Wj,Wl,Wm,Wn,Wo,Wp,Wq,Wr,Ws,Wt,Wu,Wv,Ww,Wx,Wy,Wz,W0,W3,W4,W5,W6,W7,W8,W9,Ya,Yb,Yc,Yf,Yg,Yh,Yi,Yj,Yk,Yl,Ym,Yn,Yo,Yp,Yq,Yr,Ys,Yt,Yu,Yv,Yw,Yx,Yy,Yz,Y0,Y1,Y2,Y3,Y4,Y5,Y6,Y7,Y8,Y9,Va,Vb,Vc,Vd,Ve,Vf,Vg,Vh,Vi,Vj,Vk,Vl,Vm,Vn,Vo,Vp,Vq,Vr,Vs,Vt,Vu,Vv,Vw,Vx,Vy,Vz,V0,V1,V2,V3,V4,V5,V6,V7,V8,V9,Ua,Ub,Uc,Ud,Ue,Uf,Ug,Uh,Ui,Uo,Up,Uq,Ur,Us,Ut,Uu,Uv,Uw,Ux,Uy,Uz,U0,U1,U2,U3,U4,U5,U6,U7,U8,U9,Ka,Kb,Kc,Kd,Ke,Kf,Kg,Kh,Ki,Kj,Kk,Kl,Km,Kn,Ko,Kq,Kr,Ks,Kt,Ku,K1,K2,K3,K4,K5,K6,K7,Ga,Gx,Hd,Gq,Hi,Gp,Nl]
     tactic =>
      try simp only [Gl] at *
      try simp only [nc2] at *
      try simp (maxSteps := 4000000) only [h1,hR,szM,G4]
      repeat' (first | with_reducible assumption | with_reducible refine And.intro ?_ ?_ | intro _ | omega | (rw [Gb]; omega))
      all_goals first
        | (with_reducible refine G7 ?_; kernel_rfl)
        | omega
        | rfl
        | skip)
  | false =>
  cases h2 : leB (l.length : Int) i with
  | true =>
    rw [h1, h2] at hR2
    have hr : R = [] := hR2.symm
    subst hr
    simp only [Try.f17, Option.some.injEq] at hc
    subst hc
    refine Nu 2 (of_decide_eq_true (by kernel_rfl)) ?_
    (sym =>
     simp [h1,h2,hR,szM,B4,B6,B5,B7,B3,B2,M0.eq_def,Gr.eq_def,Za,Zb,Zc,Zd,Ze,Zf,Zg,Zn,Zo,Zp,Zq,Zr,Zs,Zt,Zv,Zy,Z0,Z3,Z4,Z5,Z7,Z8,Z9,Qa,Qb,Qc,Qd,Qe,Qf,Qj,Qk,Ql,Qm,Qn,Qo,Qq,Qw,Qx,Qz,Q3,Q4,Q5,Q6,Q7,Q8,Q9,Ja,Jb,Jc,Jd,Je,Jf,Jg,Jn,Jr,Js,Jt,Ju,Jv,Jw,Jz,J0,J1,J2,J3,J4,J5,J6,J7,J8,J9,Xa,Xb,Xc,Xd,Xe,Xf,Xg,Xh,Xi,Xj,Xk,Xl,Xm,Xn,Xo,Xp,Xq,Xr,Xs,Xu,Xv,Xw,Xx,Xy,Xz,X0,X1,X2,X3,X4,X5,X6,X7,X8,X9,Wa,Wb,Wc,Wf,Wg,Wh,Wi,Wj,Wl,Wm,Wn,Wo,Wp,Wq,Wr,Ws,Wt,Wu,Wv,Ww,Wx,Wy,Wz,W0,W3,W4,W5,W6,W7,W8,W9,Ya,Yb,Yc,Yf,Yg,Yh,Yi,Yj,Yk,Yl,Ym,Yn,Yo,Yp,Yq,Yr,Ys,Yt,Yu,Yv,Yw,Yx,Yy,Yz,Y0,Y1,Y2,Y3,Y4,Y5,Y6,Y7,Y8,Y9,Va,Vb,Vc,Vd,Ve,Vf,Vg,Vh,Vi,Vj,Vk,Vl,Vm,Vn,Vo,Vp,Vq,Vr,Vs,Vt,Vu,Vv,Vw,Vx,Vy,Vz,V0,V1,V2,V3,V4,V5,V6,V7,V8,V9,Ua,Ub,Uc,Ud,Ue,Uf,Ug,Uh,Ui,Uo,Up,Uq,Ur,Us,Ut,Uu,Uv,Uw,Ux,Uy,Uz,U0,U1,U2,U3,U4,U5,U6,U7,U8,U9,Ka,Kb,Kc,Kd,Ke,Kf,Kg,Kh,Ki,Kj,Kk,Kl,Km,Kn,Ko,Kq,Kr,Ks,Kt,Ku,K1,K2,K3,K4,K5,K6,K7,Ga,Gx,Hd,Gq,Hi,Gp,Nl]
     tactic =>
      try simp only [Gl] at *
      try simp only [nc2] at *
      try simp (maxSteps := 4000000) only [h1,h2,hR,szM,G4]
      repeat' (first | with_reducible assumption | with_reducible refine And.intro ?_ ?_ | intro _ | omega | (rw [Gb]; omega))
      all_goals first
        | (with_reducible refine G7 ?_; kernel_rfl)
        | omega
        | rfl
        | skip)
  | false =>
  rw [h1, h2] at hR2
  simp only [Bool.or_self, cond_false] at hR2
  have hre : H2 l i = Mg l i (l.length + 1) := rfl
  rw [← hre] at hbl
  obtain ⟨b, hb⟩ : ∃ b, H2 l i = b := ⟨_, rfl⟩
  rw [hb] at hbl hR2
  simp only [Try.f17, Option.some.injEq] at hc
  subst hc
  refine Nu 2 (of_decide_eq_true (by kernel_rfl)) ?_
  (sym =>
   simp [h1,h2,hb,szM,B4,B6,B5,B7,B3,B2,M0.eq_def,Gr.eq_def,Za,Zb,Zc,Zd,Ze,Zf,Zg,Zn,Zo,Zp,Zq,Zr,Zs,Zt,Zv,Zy,Z0,Z3,Z4,Z5,Z7,Z8,Z9,Qa,Qb,Qc,Qd,Qe,Qf,Qj,Qk,Ql,Qm,Qn,Qo,Qq,Qw,Qx,Qz,Q3,Q4,Q5,Q6,Q7,Q8,Q9,Ja,Jb,Jc,Jd,Je,Jf,Jg,Jn,Jr,Js,Jt,Ju,Jv,Jw,Jz,J0,J1,J2,J3,J4,J5,J6,J7,J8,J9,Xa,Xb,Xc,Xd,Xe,Xf,Xg,Xh,Xi,Xj,Xk,Xl,Xm,Xn,Xo,Xp,Xq,Xr,Xs,Xu,Xv,Xw,Xx,Xy,Xz,X0,X1,X2,X3,X4,X5,X6,X7,X8,X9,Wa,Wb,Wc,Wf,Wg,Wh,Wi,Wj,Wl,Wm,Wn,Wo,Wp,Wq,Wr,Ws,Wt,Wu,Wv,Ww,Wx,Wy,Wz,W0,W3,W4,W5,W6,W7,W8,W9,Ya,Yb,Yc,Yf,Yg,Yh,Yi,Yj,Yk,Yl,Ym,Yn,Yo,Yp,Yq,Yr,Ys,Yt,Yu,Yv,Yw,Yx,Yy,Yz,Y0,Y1,Y2,Y3,Y4,Y5,Y6,Y7,Y8,Y9,Va,Vb,Vc,Vd,Ve,Vf,Vg,Vh,Vi,Vj,Vk,Vl,Vm,Vn,Vo,Vp,Vq,Vr,Vs,Vt,Vu,Vv,Vw,Vx,Vy,Vz,V0,V1,V2,V3,V4,V5,V6,V7,V8,V9,Ua,Ub,Uc,Ud,Ue,Uf,Ug,Uh,Ui,Uo,Up,Uq,Ur,Us,Ut,Uu,Uv,Uw,Ux,Uy,Uz,U0,U1,U2,U3,U4,U5,U6,U7,U8,U9,Ka,Kb,Kc,Kd,Ke,Kf,Kg,Kh,Ki,Kj,Kk,Kl,Km,Kn,Ko,Kq,Kr,Ks,Kt,Ku,K1,K2,K3,K4,K5,K6,K7,Ga,Gx,Hd,Gq,Hi,Gp,Nl]
   tactic =>
    try simp only [Gl] at *
    try simp only [nc2] at *
    try simp (maxSteps := 4000000) only [h1,h2,hb,szM,G4]
    repeat' (first | with_reducible assumption | with_reducible refine And.intro ?_ ?_ | intro _ | omega | (rw [Gb]; omega))
    all_goals try omega
    refine Ha [21, 22, 23, 24, 25, 26, 27, 28, 29, 30, 31, 32, 33, 34, 35, 36, 37, 38, 39] (fun k : Nat => [(5, .sl 8 ((Dl i b k).map (enc : Int → D)).length), (7, .d (.int .i64 k))]) (fun k : Nat => [(8, .row 1 ((Dl i b k).map enc) 0)]) (fun k : Nat => k ≤ l.length) (fun k : Nat => l.length - k) 0 ?_ ?_ ?_
    · omega
    · ((try simp only [Gd, Gj, Gi, Gs, upd, Gt, G5, Hn, Nat.reduceDiv, Nat.reduceMod, Nat.reduceMul, Nat.reduceAdd, Nat.reduceEqDiff, List.set_cons_zero, List.set_cons_succ, if_true, if_false, reduceIte]); (first | refine Wk.of_fl ?_ | skip); simp only [Wk, wkK, Ht, wkT, wk1, AV.kept, keptAll, wkO, lk, Ge, and_true, true_and, and_self, Nat.reduceEqDiff, Nat.reduceLeDiff, if_true, if_false, reduceIte, reduceCtorEq, Option.isSome, false_implies]; try simp [Wk, wkK, wkT, wk1, AV.kept, keptAll, wkO, lk, Ge, Dl])
    rintro k hk
    have hnl := needN_len i b k
    have hS : Dl i b (k + 1) = Dl i b k ++ cond (b.getD k false || ((k : Int) == i)) [(k : Int)] [] := rfl
    obtain ⟨N, hN⟩ : ∃ N, Dl i b k = N := ⟨_, rfl⟩
    obtain ⟨N2, hN2⟩ : ∃ N, Dl i b (k + 1) = N := ⟨_, rfl⟩
    rw [hN] at hnl
    rw [hN, hN2] at hS
    rcases Hg k l.length with ⟨hlt, hlb⟩ | ⟨hlt, hlb⟩
    · rw [hN]
      have q2 := Hp false (show k < b.length by omega)
      obtain ⟨c1, hcc⟩ : ∃ c1, b.getD k false = c1 := ⟨_, rfl⟩
      rw [hcc] at q2 hS
      obtain ⟨c2, hcd⟩ : ∃ c2, ((k : Int) == i) = c2 := ⟨_, rfl⟩
      rw [hcd] at hS
      cases c1 with
      | true =>
        simp only [Bool.true_or, cond_true] at hS
        (sym =>
         simp [hlb,q2,hbl,szM,B4,B6,B5,B7,B3,B2,M0.eq_def,Gr.eq_def,Za,Zb,Zc,Zd,Ze,Zf,Zg,Zn,Zo,Zp,Zq,Zr,Zs,Zt,Zv,Zy,Z0,Z3,Z4,Z5,Z7,Z8,Z9,Qa,Qb,Qc,Qd,Qe,Qf,Qj,Qk,Ql,Qm,Qn,Qo,Qq,Qw,Qx,Qz,Q3,Q4,Q5,Q6,Q7,Q8,Q9,Ja,Jb,Jc,Jd,Je,Jf,Jg,Jn,Jr,Js,Jt,Ju,Jv,Jw,Jz,J0,J1,J2,J3,J4,J5,J6,J7,J8,J9,Xa,Xb,Xc,Xd,Xe,Xf,Xg,Xh,Xi,Xj,Xk,Xl,Xm,Xn,Xo,Xp,Xq,Xr,Xs,Xu,Xv,Xw,Xx,Xy,Xz,X0,X1,X2,X3,X4,X5,X6,X7,X8,X9,Wa,Wb,Wc,Wf,Wg,Wh,Wi,Wj,Wl,Wm,Wn,Wo,Wp,Wq,Wr,Ws,Wt,Wu,Wv,Ww,Wx,Wy,Wz,W0,W3,W4,W5,W6,W7,W8,W9,Ya,Yb,Yc,Yf,Yg,Yh,Yi,Yj,Yk,Yl,Ym,Yn,Yo,Yp,Yq,Yr,Ys,Yt,Yu,Yv,Yw,Yx,Yy,Yz,Y0,Y1,Y2,Y3,Y4,Y5,Y6,Y7,Y8,Y9,Va,Vb,Vc,Vd,Ve,Vf,Vg,Vh,Vi,Vj,Vk,Vl,Vm,Vn,Vo,Vp,Vq,Vr,Vs,Vt,Vu,Vv,Vw,Vx,Vy,Vz,V0,V1,V2,V3,V4,V5,V6,V7,V8,V9,Ua,Ub,Uc,Ud,Ue,Uf,Ug,Uh,Ui,Uo,Up,Uq,Ur,Us,Ut,Uu,Uv,Uw,Ux,Uy,Uz,U0,U1,U2,U3,U4,U5,U6,U7,U8,U9,Ka,Kb,Kc,Kd,Ke,Kf,Kg,Kh,Ki,Kj,Kk,Kl,Km,Kn,Ko,Kq,Kr,Ks,Kt,Ku,K1,K2,K3,K4,K5,K6,K7,Ga,Gx,Hd,Gq,Hi,Gp,Nl]
         tactic =>
          try simp only [Gl] at *
          try simp only [nc2] at *
          try simp (maxSteps := 4000000) only [hlb,q2,hbl,szM,G4]
          repeat' (first | with_reducible assumption | with_reducible refine And.intro ?_ ?_ | intro _ | omega | (rw [Gb]; omega))
          all_goals first
            | (with_reducible refine G7 ?_; kernel_rfl)
            | omega
            | exact ⟨k + 1, by simp only [hN2, hS]; ((try simp only [Gd, Gj, Gi, Gs, upd, Gt, G5, Hn, Nat.reduceDiv, Nat.reduceMod, Nat.reduceMul, Nat.reduceAdd, Nat.reduceEqDiff, List.set_cons_zero, List.set_cons_succ, if_true, if_false, reduceIte]); (first | refine Wk.of_fl ?_ | skip); simp only [Wk, wkK, Ht, wkT, wk1, AV.kept, keptAll, wkO, lk, Ge, and_true, true_and, and_self, Nat.reduceEqDiff, Nat.reduceLeDiff, if_true, if_false, reduceIte, reduceCtorEq, Option.isSome, false_implies]; try simp [Wk, wkK, wkT, wk1, AV.kept, keptAll, wkO, lk, Ge, List.map_append, List.length_append]), by omega, by omega⟩
            | skip)
      | false =>
      cases c2 with
      | true =>
        simp only [Bool.false_or, cond_true] at hS
        (sym =>
         simp [hlb,q2,hcd,hbl,szM,B4,B6,B5,B7,B3,B2,M0.eq_def,Gr.eq_def,Za,Zb,Zc,Zd,Ze,Zf,Zg,Zn,Zo,Zp,Zq,Zr,Zs,Zt,Zv,Zy,Z0,Z3,Z4,Z5,Z7,Z8,Z9,Qa,Qb,Qc,Qd,Qe,Qf,Qj,Qk,Ql,Qm,Qn,Qo,Qq,Qw,Qx,Qz,Q3,Q4,Q5,Q6,Q7,Q8,Q9,Ja,Jb,Jc,Jd,Je,Jf,Jg,Jn,Jr,Js,Jt,Ju,Jv,Jw,Jz,J0,J1,J2,J3,J4,J5,J6,J7,J8,J9,Xa,Xb,Xc,Xd,Xe,Xf,Xg,Xh,Xi,Xj,Xk,Xl,Xm,Xn,Xo,Xp,Xq,Xr,Xs,Xu,Xv,Xw,Xx,Xy,Xz,X0,X1,X2,X3,X4,X5,X6,X7,X8,X9,Wa,Wb,Wc,Wf,Wg,Wh,Wi,Wj,Wl,Wm,Wn,Wo,Wp,Wq,Wr,Ws,Wt,Wu,Wv,Ww,Wx,Wy,Wz,W0,W3,W4,W5,W6,W7,W8,W9,Ya,Yb,Yc,Yf,Yg,Yh,Yi,Yj,Yk,Yl,Ym,Yn,Yo,Yp,Yq,Yr,Ys,Yt,Yu,Yv,Yw,Yx,Yy,Yz,Y0,Y1,Y2,Y3,Y4,Y5,Y6,Y7,Y8,Y9,Va,Vb,Vc,Vd,Ve,Vf,Vg,Vh,Vi,Vj,Vk,Vl,Vm,Vn,Vo,Vp,Vq,Vr,Vs,Vt,Vu,Vv,Vw,Vx,Vy,Vz,V0,V1,V2,V3,V4,V5,V6,V7,V8,V9,Ua,Ub,Uc,Ud,Ue,Uf,Ug,Uh,Ui,Uo,Up,Uq,Ur,Us,Ut,Uu,Uv,Uw,Ux,Uy,Uz,U0,U1,U2,U3,U4,U5,U6,U7,U8,U9,Ka,Kb,Kc,Kd,Ke,Kf,Kg,Kh,Ki,Kj,Kk,Kl,Km,Kn,Ko,Kq,Kr,Ks,Kt,Ku,K1,K2,K3,K4,K5,K6,K7,Ga,Gx,Hd,Gq,Hi,Gp,Nl]
         tactic =>
          try simp only [Gl] at *
          try simp only [nc2] at *
          try simp (maxSteps := 4000000) only [hlb,q2,hcd,hbl,szM,G4]
          repeat' (first | with_reducible assumption | with_reducible refine And.intro ?_ ?_ | intro _ | omega | (rw [Gb]; omega))
          all_goals first
            | (with_reducible refine G7 ?_; kernel_rfl)
            | omega
            | exact ⟨k + 1, by simp only [hN2, hS]; ((try simp only [Gd, Gj, Gi, Gs, upd, Gt, G5, Hn, Nat.reduceDiv, Nat.reduceMod, Nat.reduceMul, Nat.reduceAdd, Nat.reduceEqDiff, List.set_cons_zero, List.set_cons_succ, if_true, if_false, reduceIte]); (first | refine Wk.of_fl ?_ | skip); simp only [Wk, wkK, Ht, wkT, wk1, AV.kept, keptAll, wkO, lk, Ge, and_true, true_and, and_self, Nat.reduceEqDiff, Nat.reduceLeDiff, if_true, if_false, reduceIte, reduceCtorEq, Option.isSome, false_implies]; try simp [Wk, wkK, wkT, wk1, AV.kept, keptAll, wkO, lk, Ge, List.map_append, List.length_append]), by omega, by omega⟩
            | skip)
      | false =>
        simp only [Bool.or_self, cond_false, List.append_nil] at hS
        (sym =>
         simp [hlb,q2,hcd,hbl,szM,B4,B6,B5,B7,B3,B2,M0.eq_def,Gr.eq_def,Za,Zb,Zc,Zd,Ze,Zf,Zg,Zn,Zo,Zp,Zq,Zr,Zs,Zt,Zv,Zy,Z0,Z3,Z4,Z5,Z7,Z8,Z9,Qa,Qb,Qc,Qd,Qe,Qf,Qj,Qk,Ql,Qm,Qn,Qo,Qq,Qw,Qx,Qz,Q3,Q4,Q5,Q6,Q7,Q8,Q9,Ja,Jb,Jc,Jd,Je,Jf,Jg,Jn,Jr,Js,Jt,Ju,Jv,Jw,Jz,J0,J1,J2,J3,J4,J5,J6,J7,J8,J9,Xa,Xb,Xc,Xd,Xe,Xf,Xg,Xh,Xi,Xj,Xk,Xl,Xm,Xn,Xo,Xp,Xq,Xr,Xs,Xu,Xv,Xw,Xx,Xy,Xz,X0,X1,X2,X3,X4,X5,X6,X7,X8,X9,Wa,Wb,Wc,Wf,Wg,Wh,Wi,Wj,Wl,Wm,Wn,Wo,Wp,Wq,Wr,Ws,Wt,Wu,Wv,Ww,Wx,Wy,Wz,W0,W3,W4,W5,W6,W7,W8,W9,Ya,Yb,Yc,Yf,Yg,Yh,Yi,Yj,Yk,Yl,Ym,Yn,Yo,Yp,Yq,Yr,Ys,Yt,Yu,Yv,Yw,Yx,Yy,Yz,Y0,Y1,Y2,Y3,Y4,Y5,Y6,Y7,Y8,Y9,Va,Vb,Vc,Vd,Ve,Vf,Vg,Vh,Vi,Vj,Vk,Vl,Vm,Vn,Vo,Vp,Vq,Vr,Vs,Vt,Vu,Vv,Vw,Vx,Vy,Vz,V0,V1,V2,V3,V4,V5,V6,V7,V8,V9,Ua,Ub,Uc,Ud,Ue,Uf,Ug,Uh,Ui,Uo,Up,Uq,Ur,Us,Ut,Uu,Uv,Uw,Ux,Uy,Uz,U0,U1,U2,U3,U4,U5,U6,U7,U8,U9,Ka,Kb,Kc,Kd,Ke,Kf,Kg,Kh,Ki,Kj,Kk,Kl,Km,Kn,Ko,Kq,Kr,Ks,Kt,Ku,K1,K2,K3,K4,K5,K6,K7,Ga,Gx,Hd,Gq,Hi,Gp,Nl]
         tactic =>
          try simp only [Gl] at *
          try simp only [nc2] at *
          try simp (maxSteps := 4000000) only [hlb,q2,hcd,hbl,szM,G4]
          repeat' (first | with_reducible assumption | with_reducible refine And.intro ?_ ?_ | intro _ | omega | (rw [Gb]; omega))
          all_goals first
            | (with_reducible refine G7 ?_; kernel_rfl)
            | omega
            | exact ⟨k + 1, by simp only [hN2, hS]; ((try simp only [Gd, Gj, Gi, Gs, upd, Gt, G5, Hn, Nat.reduceDiv, Nat.reduceMod, Nat.reduceMul, Nat.reduceAdd, Nat.reduceEqDiff, List.set_cons_zero, List.set_cons_succ, if_true, if_false, reduceIte]); (first | refine Wk.of_fl ?_ | skip); simp only [Wk, wkK, Ht, wkT, wk1, AV.kept, keptAll, wkO, lk, Ge, and_true, true_and, and_self, Nat.reduceEqDiff, Nat.reduceLeDiff, if_true, if_false, reduceIte, reduceCtorEq, Option.isSome, false_implies]; try simp [Wk, wkK, wkT, wk1, AV.kept, keptAll, wkO, lk, Ge]), by omega, by omega⟩
            | skip)
    · have hkl : k = l.length := by omega
      rw [hkl] at hN
      rw [hkl, hR2]
      (sym =>
       simp [hlb,hR,szM,B4,B6,B5,B7,B3,B2,M0.eq_def,Gr.eq_def,Za,Zb,Zc,Zd,Ze,Zf,Zg,Zn,Zo,Zp,Zq,Zr,Zs,Zt,Zv,Zy,Z0,Z3,Z4,Z5,Z7,Z8,Z9,Qa,Qb,Qc,Qd,Qe,Qf,Qj,Qk,Ql,Qm,Qn,Qo,Qq,Qw,Qx,Qz,Q3,Q4,Q5,Q6,Q7,Q8,Q9,Ja,Jb,Jc,Jd,Je,Jf,Jg,Jn,Jr,Js,Jt,Ju,Jv,Jw,Jz,J0,J1,J2,J3,J4,J5,J6,J7,J8,J9,Xa,Xb,Xc,Xd,Xe,Xf,Xg,Xh,Xi,Xj,Xk,Xl,Xm,Xn,Xo,Xp,Xq,Xr,Xs,Xu,Xv,Xw,Xx,Xy,Xz,X0,X1,X2,X3,X4,X5,X6,X7,X8,X9,Wa,Wb,Wc,Wf,Wg,Wh,Wi,Wj,Wl,Wm,Wn,Wo,Wp,Wq,Wr,Ws,Wt,Wu,Wv,Ww,Wx,Wy,Wz,W0,W3,W4,W5,W6,W7,W8,W9,Ya,Yb,Yc,Yf,Yg,Yh,Yi,Yj,Yk,Yl,Ym,Yn,Yo,Yp,Yq,Yr,Ys,Yt,Yu,Yv,Yw,Yx,Yy,Yz,Y0,Y1,Y2,Y3,Y4,Y5,Y6,Y7,Y8,Y9,Va,Vb,Vc,Vd,Ve,Vf,Vg,Vh,Vi,Vj,Vk,Vl,Vm,Vn,Vo,Vp,Vq,Vr,Vs,Vt,Vu,Vv,Vw,Vx,Vy,Vz,V0,V1,V2,V3,V4,V5,V6,V7,V8,V9,Ua,Ub,Uc,Ud,Ue,Uf,Ug,Uh,Ui,Uo,Up,Uq,Ur,Us,Ut,Uu,Uv,Uw,Ux,Uy,Uz,U0,U1,U2,U3,U4,U5,U6,U7,U8,U9,Ka,Kb,Kc,Kd,Ke,Kf,Kg,Kh,Ki,Kj,Kk,Kl,Km,Kn,Ko,Kq,Kr,Ks,Kt,Ku,K1,K2,K3,K4,K5,K6,K7,Ga,Gx,Hd,Gq,Hi,Gp,Nl]
       tactic =>
        try simp only [Gl] at *
        try simp only [nc2] at *
        try simp (maxSteps := 4000000) only [hlb,hR,szM,G4]
        repeat' (first | with_reducible assumption | with_reducible refine And.intro ?_ ?_ | intro _ | omega | (rw [Gb]; omega))
        all_goals first
          | trivial
          | rfl
          | skip))
end Go.Am.Graph
set_option linter.unusedSimpArgs false
set_option linter.unusedVariables false
set_option maxHeartbeats 1000000
namespace Go.Am.Graph
open Go.Proofs
open Enc (enc dec)
def M3 {A R S T : Type} [Enc A] [Enc R] [Enc S] [Enc T] (p : A → Prop) (f : A → R × S × T) : Con := ⟨[false], [false, false, false], fun c => match c with
  | [.d x] => isE A x ∧ p (dec x)
  | _ => False, fun c => match c with
  | [.d x] => .tup [.d (enc (f (dec x)).1), .d (enc (f (dec x)).2.1), .d (enc (f (dec x)).2.2)]
  | _ => .d .nilp⟩
theorem con1q_pre {A R S T : Type} [Enc A] [Enc R] [Enc S] [Enc T] {p : A → Prop} {f : A → R × S × T} {c : List CV} (h : (M3 p f).pre c) : ∃ a, c = [.d (enc a)] ∧ p a := by
  unfold M3 at h
  simp only at h
  split at h
  · next x => exact ⟨dec x, by rw [← h.1], h.2⟩
  · exact h.elim
theorem first_at {p : Nat → Bool} : ∀ {n k : Nat}, k < n → (∀ j, j < k → p j = false) → p k = true → (List.range n).find? p = some k := by
  intro n k hk hno hp
  rw [List.find?_eq_some_iff_append]
  refine ⟨hp, List.range k, (List.range' (k + 1) (n - k - 1)), ?_, fun a ha => ?_⟩
  · rw [List.range_eq_range', List.range_eq_range', show n = k + (1 + (n - k - 1)) by omega, List.range'_append_1.symm]
    rw [show 1 + (n - k - 1) = (n - k - 1) + 1 by omega, List.range'_succ]
    simp
  · rw [hno a (List.mem_range.1 ha)]; rfl
theorem first_no {p : Nat → Bool} {n : Nat} (hno : ∀ j, j < n → p j = false) : (List.range n).find? p = none := by
  rw [List.find?_eq_none]
  intro x hx
  rw [hno x (List.mem_range.1 hx)]
  simp
def Cm (f : Nat → Bool) (n : Nat) : Nat → List Bool
  | 0 => List.replicate n false
  | k + 1 => (Cm f n k).set k (f k)
theorem Rm (f : Nat → Bool) (n : Nat) : ∀ k, (Cm f n k).length = n
  | 0 => by simp [Cm]
  | k + 1 => by rw [Cm, List.length_set, Rm f n k]
theorem fillN_at (f : Nat → Bool) (n : Nat) : ∀ k j, k ≤ n → j < n → (Cm f n k)[j]? = some (if j < k then f j else false)
  | 0, j, _, hj => by simp [Cm, hj]
  | k + 1, j, hk, hj => by
    have ih := fillN_at f n k j (by omega) hj
    rw [Cm, List.getElem?_set]
    by_cases e : k = j
    · subst e
      rw [if_pos rfl, if_pos (by rw [Rm]; exact hj), if_pos (by omega)]
    · rw [if_neg e, ih]
      by_cases h : j < k
      · rw [if_pos h, if_pos (by omega)]
      · rw [if_neg h, if_neg (by omega)]
theorem Ob (f : Nat → Bool) (n : Nat) : Cm f n n = (List.range n).map f := by
  apply List.ext_getElem?
  intro j
  rcases Nat.lt_or_ge j n with hj | hj
  · rw [fillN_at f n n j (Nat.le_refl _) hj, if_pos hj]
    simp [hj]
  · rw [List.getElem?_eq_none (by rw [Rm]; exact hj), List.getElem?_eq_none (by simpa using hj)]
def Dw (l : List Mod) (k : Nat) : Bool := ltB (Hm l (nm l k)) (k : Int)
def C5 (l : List Mod) (k : Nat) : Bool := (imp l k).any fun s => ltB (Hm l s) 0
def E2 (l : List Mod) (k : Nat) : Bool := (H2 l (k : Int)).getD k false
def mayB (l : List Mod) (out : List Int) (k : Nat) : Bool := !inB out (k : Int) && O9 l (k : Int) out
def Ol (l : List Mod) : Nat → List Int
  | 0 => []
  | r + 1 => Ol l r ++ [Mt l ((List.range l.length).map (mayB l (Ol l r))) l.length]
theorem outN_len (l : List Mod) : ∀ r, (Ol l r).length = r
  | 0 => rfl
  | r + 1 => by rw [Ol, List.length_append, outN_len l r]; rfl
def Ii (l : List Mod) : Sl Int × Int × Int := match (List.range l.length).find? (Dw l) with
  | some i => (⟨[]⟩, i, 7)
  | none => match (List.range l.length).find? (C5 l) with
    | some i => (⟨[]⟩, i, 6)
    | none => cond (leB 0 (Mt l ((List.range l.length).map (E2 l)) l.length)) (⟨[]⟩, Mt l ((List.range l.length).map (E2 l)) l.length, 8) (⟨Ol l l.length⟩, 0, 0)
def H3 : Con := M3 (fun (l : Sl Mod) => Ph l.l = true) (fun l => Ii l.l)
noncomputable def Tm : Ctx := ⟨tab, lkC [(28, G9), (29, Gr), (30, Ho), (18, G6), (31, Hs)], 60, lkB [], [], false⟩
theorem H8 : Tm.τ = tab := rfl
theorem Na : Tm.Γ = lkC [(28, G9), (29, Gr), (30, Ho), (18, G6), (31, Hs)] := rfl
theorem H9 : Tm.dp = 60 := rfl
theorem Nb : Tm.Δ = lkB [] := rfl
theorem H7 : Tm.cuts = [] := rfl
theorem H6 : Tm.wr = false := rfl
set_option maxRecDepth 100000 in
theorem good_Order8 : Ck Try.prog (13, H3) := by
  refine ⟨Hh Try.func13 (by kernel_rfl) rfl, ?_⟩
  have K : Mj Try.prog Tm := Nj P8 Ny (by
    intro p hp
    simp only [List.mem_cons, List.not_mem_nil, or_false] at hp
    rcases hp with rfl | rfl | rfl | rfl | rfl
    · exact good_find8
    · exact Oz
    · exact good_least8
    · exact I5
    · exact good_ready8) (by simp)
  obtain ⟨c, hc⟩ : ∃ c, Try.f13.body = some c := ⟨_, rfl⟩
  refine Mi K Try.func13 hc [.tmp 2, .tmp 3, .tmp 4] rfl 117 rfl (fun cvs hpre => ?_)
  change H3.pre cvs at hpre
  unfold H3 at hpre
  obtain ⟨⟨l⟩, rfl, hf⟩ := con1q_pre hpre
  simp only at hf
  clear hpre
  have hl20 := Px hf
  obtain ⟨R1, R2, R3, hR⟩ : ∃ a b d, Ii l = (a, b, d) := ⟨_, _, _, rfl⟩
  have hR2 := hR
  unfold Ii at hR2
  simp only [Try.f13, Option.some.injEq] at hc
  subst hc
  refine Nu 7 (of_decide_eq_true (by kernel_rfl)) ?_
  (sym =>
   simp [H8,Na,H9,Nb,H7,H6,G6.eq_def,H3.eq_def,G9.eq_def,Ho.eq_def,Gr.eq_def,Hs.eq_def,Za,Zb,Zc,Zd,Ze,Zf,Zg,Zn,Zo,Zp,Zq,Zr,Zs,Zt,Zv,Zw,Zx,Zy,Z0,Z2,Z3,Z4,Z5,Z7,Z8,Z9,Qa,Qb,Qc,Qd,Qe,Qf,Qi,Qj,Qk,Ql,Qm,Qn,Qo,Qq,Qw,Qx,Qz,Q3,Q4,Q5,Q6,Q7,Q8,Q9,Ja,Jb,Jc,Jd,Je,Jf,Jg,Jn,Jr,Js,Jt,Ju,Jv,Jw,Jz,J0,J1,J2,J3,J4,J5,J6,J7,J8,J9,Xa,Xb,Xc,Xd,Xe,Xf,Xg,Xh,Xi,Xj,Xk,Xl,Xm,Xn,Xo,Xp,Xq,Xr,Xs,Xt,Xu,Xv,Xw,Xx,Xy,Xz,X0,X1,X2,X3,X4,X5,X6,X7,X8,X9,Wa,Wb,Wc,Wf,Wg,Wh,Wi,Wj,Wl,Wm,Wn,Wo,Wp,Wq,Wr,Ws,Wt,Wu,Wv,Ww,Wx,Wy,Wz,W0,W3,W4,W5,W6,W7,W8,W9,Ya,Yb,Yc,Yf,Yg,Yh,Yi,Yj,Yk,Yl,Ym,Yn,Yo,Yp,Yq,Yr,Ys,Yt,Yu,Yv,Yw,Yx,Yy,Yz,Y0,Y1,Y2,Y3,Y4,Y5,Y6,Y7,Y8,Y9,Va,Vb,Vc,Vd,Ve,Vf,Vg,Vh,Vi,Vj,Vk,Vl,Vm,Vn,Vo,Vp,Vq,Vr,Vs,Vt,Vu,Vv,Vw,Vx,Vy,Vz,V0,V1,V2,V3,V4,V5,V6,V7,V8,V9,Ua,Ub,Uc,Ud,Ue,Uf,Ug,Uh,Ui,Uj,Uk,Ul,Um,Un,Uo,Up,Uq,Ur,Us,Ut,Uu,Uv,Uw,Ux,Uy,Uz,U0,U1,U2,U3,U4,U5,U6,U7,U8,U9,Ka,Kb,Kc,Kd,Ke,Kf,Kg,Kh,Ki,Kj,Kk,Kl,Km,Kn,Ko,Kq,Kr,Ks,Kt,Ku,K1,K2,K3,K4,K5,K6,K7,Ga,Gx,Hd,Hb,Gq,Hi,Gy,Gp,Nl]
   tactic =>
    try simp only [Gl] at *
    try simp only [nc2] at *
    try simp (maxSteps := 4000000) only [G4]
    repeat' (first | with_reducible assumption | with_reducible refine And.intro ?_ ?_ | intro _ | omega | (rw [Gb]; omega))
    refine Ha [2, 3, 4, 14, 15, 16, 17, 18, 19, 20, 21, 22, 23, 24, 25, 26, 27, 28, 29] (fun k : Nat => [(5, .d (.int .i64 k))]) (fun k : Nat => []) (fun k : Nat => k ≤ l.length ∧ ∀ j, j < k → Dw l j = false) (fun k : Nat => l.length - k) 0 ?_ ?_ ?_
    · simp
    · ((try simp only [Gd, Gj, Gi, Gs, upd, Gt, G5, Hn, Nat.reduceDiv, Nat.reduceMod, Nat.reduceMul, Nat.reduceAdd, Nat.reduceEqDiff, List.set_cons_zero, List.set_cons_succ, if_true, if_false, reduceIte]); (first | refine Wk.of_fl ?_ | skip); simp only [Wk, wkK, Ht, wkT, wk1, AV.kept, keptAll, wkO, lk, Ge, and_true, true_and, and_self, Nat.reduceEqDiff, Nat.reduceLeDiff, if_true, if_false, reduceIte, reduceCtorEq, Option.isSome, false_implies]; try simp [Wk, wkK, wkT, wk1, AV.kept, keptAll, wkO, lk, Ge])
    rintro k ⟨hk, hno⟩
    rcases Hg k l.length with ⟨hlt, hlb⟩ | ⟨hlt, hlb⟩
    · have q1 := Hp m0 hlt
      have hst : Dw l k = false → ∀ j, j < k + 1 → Dw l j = false := fun h => Ok hno h
      have hit : Dw l k = true → R1 = ⟨[]⟩ ∧ R2 = k ∧ R3 = 7 := fun h => by
        rw [first_at hlt hno h] at hR2
        injection hR2 with e1 e2
        injection e2 with e2 e3
        exact ⟨e1.symm, e2.symm, e3.symm⟩
      unfold Dw nm at hst hit
      obtain ⟨x, hx⟩ : ∃ x, l.getD k m0 = x := ⟨_, rfl⟩
      rw [hx] at q1 hst hit
      cases hb : ltB (Hm l x.name) (k : Int) with
      | true =>
        obtain ⟨e1, e2, e3⟩ := hit hb
        subst e1 e2 e3
        (sym =>
         simp [hlb,q1,hb,hR,M3.eq_def,Gg,szM,H8,Na,H9,Nb,H7,H6,G6.eq_def,H3.eq_def,G9.eq_def,Ho.eq_def,Gr.eq_def,Hs.eq_def,Za,Zb,Zc,Zd,Ze,Zf,Zg,Zn,Zo,Zp,Zq,Zr,Zs,Zt,Zv,Zw,Zx,Zy,Z0,Z2,Z3,Z4,Z5,Z7,Z8,Z9,Qa,Qb,Qc,Qd,Qe,Qf,Qi,Qj,Qk,Ql,Qm,Qn,Qo,Qq,Qw,Qx,Qz,Q3,Q4,Q5,Q6,Q7,Q8,Q9,Ja,Jb,Jc,Jd,Je,Jf,Jg,Jn,Jr,Js,Jt,Ju,Jv,Jw,Jz,J0,J1,J2,J3,J4,J5,J6,J7,J8,J9,Xa,Xb,Xc,Xd,Xe,Xf,Xg,Xh,Xi,Xj,Xk,Xl,Xm,Xn,Xo,Xp,Xq,Xr,Xs,Xt,Xu,Xv,Xw,Xx,Xy,Xz,X0,X1,X2,X3,X4,X5,X6,X7,X8,X9,Wa,Wb,Wc,Wf,Wg,Wh,Wi,Wj,Wl,Wm,Wn,Wo,Wp,Wq,Wr,Ws,Wt,Wu,Wv,Ww,Wx,Wy,Wz,W0,W3,W4,W5,W6,W7,W8,W9,Ya,Yb,Yc,Yf,Yg,Yh,Yi,Yj,Yk,Yl,Ym,Yn,Yo,Yp,Yq,Yr,Ys,Yt,Yu,Yv,Yw,Yx,Yy,Yz,Y0,Y1,Y2,Y3,Y4,Y5,Y6,Y7,Y8,Y9,Va,Vb,Vc,Vd,Ve,Vf,Vg,Vh,Vi,Vj,Vk,Vl,Vm,Vn,Vo,Vp,Vq,Vr,Vs,Vt,Vu,Vv,Vw,Vx,Vy,Vz,V0,V1,V2,V3,V4,V5,V6,V7,V8,V9,Ua,Ub,Uc,Ud,Ue,Uf,Ug,Uh,Ui,Uj,Uk,Ul,Um,Un,Uo,Up,Uq,Ur,Us,Ut,Uu,Uv,Uw,Ux,Uy,Uz,U0,U1,U2,U3,U4,U5,U6,U7,U8,U9,Ka,Kb,Kc,Kd,Ke,Kf,Kg,Kh,Ki,Kj,Kk,Kl,Km,Kn,Ko,Kq,Kr,Ks,Kt,Ku,K1,K2,K3,K4,K5,K6,K7,Ga,Gx,Hd,Hb,Gq,Hi,Gy,Gp,Nl]
         tactic =>
          try simp only [Gl] at *
          try simp only [nc2] at *
          try simp (maxSteps := 4000000) only [hlb,q1,hb,hR,M3.eq_def,Gg,szM,G4]
          repeat' (first | with_reducible assumption | with_reducible refine And.intro ?_ ?_ | intro _ | omega | (rw [Gb]; omega))
          all_goals first
            | (with_reducible refine G7 ?_; kernel_rfl)
            | omega
            | trivial
            | rfl
            | skip)
      | false =>
        have hs := hst hb
        (sym =>
         simp [hlb,q1,hb,Gg,szM,H8,Na,H9,Nb,H7,H6,G6.eq_def,H3.eq_def,G9.eq_def,Ho.eq_def,Gr.eq_def,Hs.eq_def,Za,Zb,Zc,Zd,Ze,Zf,Zg,Zn,Zo,Zp,Zq,Zr,Zs,Zt,Zv,Zw,Zx,Zy,Z0,Z2,Z3,Z4,Z5,Z7,Z8,Z9,Qa,Qb,Qc,Qd,Qe,Qf,Qi,Qj,Qk,Ql,Qm,Qn,Qo,Qq,Qw,Qx,Qz,Q3,Q4,Q5,Q6,Q7,Q8,Q9,Ja,Jb,Jc,Jd,Je,Jf,Jg,Jn,Jr,Js,Jt,Ju,Jv,Jw,Jz,J0,J1,J2,J3,J4,J5,J6,J7,J8,J9,Xa,Xb,Xc,Xd,Xe,Xf,Xg,Xh,Xi,Xj,Xk,Xl,Xm,Xn,Xo,Xp,Xq,Xr,Xs,Xt,Xu,Xv,Xw,Xx,Xy,Xz,X0,X1,X2,X3,X4,X5,X6,X7,X8,X9,Wa,Wb,Wc,Wf,Wg,Wh,Wi,Wj,Wl,Wm,Wn,Wo,Wp,Wq,Wr,Ws,Wt,Wu,Wv,Ww,Wx,Wy,Wz,W0,W3,W4,W5,W6,W7,W8,W9,Ya,Yb,Yc,Yf,Yg,Yh,Yi,Yj,Yk,Yl,Ym,Yn,Yo,Yp,Yq,Yr,Ys,Yt,Yu,Yv,Yw,Yx,Yy,Yz,Y0,Y1,Y2,Y3,Y4,Y5,Y6,Y7,Y8,Y9,Va,Vb,Vc,Vd,Ve,Vf,Vg,Vh,Vi,Vj,Vk,Vl,Vm,Vn,Vo,Vp,Vq,Vr,Vs,Vt,Vu,Vv,Vw,Vx,Vy,Vz,V0,V1,V2,V3,V4,V5,V6,V7,V8,V9,Ua,Ub,Uc,Ud,Ue,Uf,Ug,Uh,Ui,Uj,Uk,Ul,Um,Un,Uo,Up,Uq,Ur,Us,Ut,Uu,Uv,Uw,Ux,Uy,Uz,U0,U1,U2,U3,U4,U5,U6,U7,U8,U9,Ka,Kb,Kc,Kd,Ke,Kf,Kg,Kh,Ki,Kj,Kk,Kl,Km,Kn,Ko,Kq,Kr,Ks,Kt,Ku,K1,K2,K3,K4,K5,K6,K7,Ga,Gx,Hd,Hb,Gq,Hi,Gy,Gp,Nl]
         tactic =>
          try simp only [Gl] at *
          try simp only [nc2] at *
          try simp (maxSteps := 4000000) only [hlb,q1,hb,Gg,szM,G4]
          repeat' (first | with_reducible assumption | with_reducible refine And.intro ?_ ?_ | intro _ | omega | (rw [Gb]; omega))
          all_goals first
            | (with_reducible refine G7 ?_; kernel_rfl)
            | omega
            | exact ⟨k + 1, by ((try simp only [Gd, Gj, Gi, Gs, upd, Gt, G5, Hn, Nat.reduceDiv, Nat.reduceMod, Nat.reduceMul, Nat.reduceAdd, Nat.reduceEqDiff, List.set_cons_zero, List.set_cons_succ, if_true, if_false, reduceIte]); (first | refine Wk.of_fl ?_ | skip); simp only [Wk, wkK, Ht, wkT, wk1, AV.kept, keptAll, wkO, lk, Ge, and_true, true_and, and_self, Nat.reduceEqDiff, Nat.reduceLeDiff, if_true, if_false, reduceIte, reduceCtorEq, Option.isSome, false_implies]; try simp [Wk, wkK, wkT, wk1, AV.kept, keptAll, wkO, lk, Ge]), by omega, hs, by omega⟩
            | skip)
    have hdup := first_no (p := Dw l) (n := l.length) fun j hj => hno j (by omega)
    rw [hdup] at hR2
    simp only at hR2
    clear hno
    (sym =>
     simp [hlb,szM,H8,Na,H9,Nb,H7,H6,G6.eq_def,H3.eq_def,G9.eq_def,Ho.eq_def,Gr.eq_def,Hs.eq_def,Za,Zb,Zc,Zd,Ze,Zf,Zg,Zn,Zo,Zp,Zq,Zr,Zs,Zt,Zv,Zw,Zx,Zy,Z0,Z2,Z3,Z4,Z5,Z7,Z8,Z9,Qa,Qb,Qc,Qd,Qe,Qf,Qi,Qj,Qk,Ql,Qm,Qn,Qo,Qq,Qw,Qx,Qz,Q3,Q4,Q5,Q6,Q7,Q8,Q9,Ja,Jb,Jc,Jd,Je,Jf,Jg,Jn,Jr,Js,Jt,Ju,Jv,Jw,Jz,J0,J1,J2,J3,J4,J5,J6,J7,J8,J9,Xa,Xb,Xc,Xd,Xe,Xf,Xg,Xh,Xi,Xj,Xk,Xl,Xm,Xn,Xo,Xp,Xq,Xr,Xs,Xt,Xu,Xv,Xw,Xx,Xy,Xz,X0,X1,X2,X3,X4,X5,X6,X7,X8,X9,Wa,Wb,Wc,Wf,Wg,Wh,Wi,Wj,Wl,Wm,Wn,Wo,Wp,Wq,Wr,Ws,Wt,Wu,Wv,Ww,Wx,Wy,Wz,W0,W3,W4,W5,W6,W7,W8,W9,Ya,Yb,Yc,Yf,Yg,Yh,Yi,Yj,Yk,Yl,Ym,Yn,Yo,Yp,Yq,Yr,Ys,Yt,Yu,Yv,Yw,Yx,Yy,Yz,Y0,Y1,Y2,Y3,Y4,Y5,Y6,Y7,Y8,Y9,Va,Vb,Vc,Vd,Ve,Vf,Vg,Vh,Vi,Vj,Vk,Vl,Vm,Vn,Vo,Vp,Vq,Vr,Vs,Vt,Vu,Vv,Vw,Vx,Vy,Vz,V0,V1,V2,V3,V4,V5,V6,V7,V8,V9,Ua,Ub,Uc,Ud,Ue,Uf,Ug,Uh,Ui,Uj,Uk,Ul,Um,Un,Uo,Up,Uq,Ur,Us,Ut,Uu,Uv,Uw,Ux,Uy,Uz,U0,U1,U2,U3,U4,U5,U6,U7,U8,U9,Ka,Kb,Kc,Kd,Ke,Kf,Kg,Kh,Ki,Kj,Kk,Kl,Km,Kn,Ko,Kq,Kr,Ks,Kt,Ku,K1,K2,K3,K4,K5,K6,K7,Ga,Gx,Hd,Hb,Gq,Hi,Gy,Gp,Nl]
     tactic =>
      try simp only [Gl] at *
      try simp only [nc2] at *
      try simp (maxSteps := 4000000) only [hlb,szM,G4]
      repeat' (first | with_reducible assumption | with_reducible refine And.intro ?_ ?_ | intro _ | omega | (rw [Gb]; omega))
      refine Ha [2, 3, 4, 7, 30, 31, 32, 33, 34, 35, 36, 37, 38, 39, 40, 41, 42, 43, 44, 45, 46, 47, 48, 49, 50, 51, 52, 53, 54, 55, 56, 57] (fun k : Nat => [(6, .d (.int .i64 k))]) (fun k : Nat => []) (fun k : Nat => k ≤ l.length ∧ ∀ j, j < k → C5 l j = false) (fun k : Nat => l.length - k) 0 ?_ ?_ ?_
      · simp
      · ((try simp only [Gd, Gj, Gi, Gs, upd, Gt, G5, Hn, Nat.reduceDiv, Nat.reduceMod, Nat.reduceMul, Nat.reduceAdd, Nat.reduceEqDiff, List.set_cons_zero, List.set_cons_succ, if_true, if_false, reduceIte]); (first | refine Wk.of_fl ?_ | skip); simp only [Wk, wkK, Ht, wkT, wk1, AV.kept, keptAll, wkO, lk, Ge, and_true, true_and, and_self, Nat.reduceEqDiff, Nat.reduceLeDiff, if_true, if_false, reduceIte, reduceCtorEq, Option.isSome, false_implies]; try simp [Wk, wkK, wkT, wk1, AV.kept, keptAll, wkO, lk, Ge])
      clear hlb hlt hk
      rintro k ⟨hk, hno⟩
      rcases Hg k l.length with ⟨hlt, hlb⟩ | ⟨hlt, hlb⟩
      · have q1 := Hp m0 hlt
        have hi20 := Dv hf k
        have hst : C5 l k = false → ∀ j, j < k + 1 → C5 l j = false := fun h => Ok hno h
        have hit : C5 l k = true → R1 = ⟨[]⟩ ∧ R2 = k ∧ R3 = 6 := fun h => by
          rw [first_at hlt hno h] at hR2
          injection hR2 with e1 e2
          injection e2 with e2 e3
          exact ⟨e1.symm, e2.symm, e3.symm⟩
        unfold C5 at hst hit
        unfold imp at hi20 hst hit
        obtain ⟨x, hx⟩ : ∃ x, l.getD k m0 = x := ⟨_, rfl⟩
        rw [hx] at q1 hst hit hi20
        (sym =>
         simp [hlb,szM,H8,Na,H9,Nb,H7,H6,G6.eq_def,H3.eq_def,G9.eq_def,Ho.eq_def,Gr.eq_def,Hs.eq_def,Za,Zb,Zc,Zd,Ze,Zf,Zg,Zn,Zo,Zp,Zq,Zr,Zs,Zt,Zv,Zw,Zx,Zy,Z0,Z2,Z3,Z4,Z5,Z7,Z8,Z9,Qa,Qb,Qc,Qd,Qe,Qf,Qi,Qj,Qk,Ql,Qm,Qn,Qo,Qq,Qw,Qx,Qz,Q3,Q4,Q5,Q6,Q7,Q8,Q9,Ja,Jb,Jc,Jd,Je,Jf,Jg,Jn,Jr,Js,Jt,Ju,Jv,Jw,Jz,J0,J1,J2,J3,J4,J5,J6,J7,J8,J9,Xa,Xb,Xc,Xd,Xe,Xf,Xg,Xh,Xi,Xj,Xk,Xl,Xm,Xn,Xo,Xp,Xq,Xr,Xs,Xt,Xu,Xv,Xw,Xx,Xy,Xz,X0,X1,X2,X3,X4,X5,X6,X7,X8,X9,Wa,Wb,Wc,Wf,Wg,Wh,Wi,Wj,Wl,Wm,Wn,Wo,Wp,Wq,Wr,Ws,Wt,Wu,Wv,Ww,Wx,Wy,Wz,W0,W3,W4,W5,W6,W7,W8,W9,Ya,Yb,Yc,Yf,Yg,Yh,Yi,Yj,Yk,Yl,Ym,Yn,Yo,Yp,Yq,Yr,Ys,Yt,Yu,Yv,Yw,Yx,Yy,Yz,Y0,Y1,Y2,Y3,Y4,Y5,Y6,Y7,Y8,Y9,Va,Vb,Vc,Vd,Ve,Vf,Vg,Vh,Vi,Vj,Vk,Vl,Vm,Vn,Vo,Vp,Vq,Vr,Vs,Vt,Vu,Vv,Vw,Vx,Vy,Vz,V0,V1,V2,V3,V4,V5,V6,V7,V8,V9,Ua,Ub,Uc,Ud,Ue,Uf,Ug,Uh,Ui,Uj,Uk,Ul,Um,Un,Uo,Up,Uq,Ur,Us,Ut,Uu,Uv,Uw,Ux,Uy,Uz,U0,U1,U2,U3,U4,U5,U6,U7,U8,U9,Ka,Kb,Kc,Kd,Ke,Kf,Kg,Kh,Ki,Kj,Kk,Kl,Km,Kn,Ko,Kq,Kr,Ks,Kt,Ku,K1,K2,K3,K4,K5,K6,K7,Ga,Gx,Hd,Hb,Gq,Hi,Gy,Gp,Nl]
         tactic =>
          try simp only [Gl] at *
          try simp only [nc2] at *
          try simp (maxSteps := 4000000) only [hlb,szM,G4]
          repeat' (first | with_reducible assumption | with_reducible refine And.intro ?_ ?_ | intro _ | omega | (rw [Gb]; omega))
          refine Ha [2, 3, 4, 36, 37, 38, 39, 40, 41, 42, 43, 44, 45, 46, 47, 48, 49, 50, 51, 52, 53, 54, 55, 56, 57] (fun j : Nat => [(7, .d (.int .i64 j))]) (fun j : Nat => []) (fun j : Nat => j ≤ x.imps.length ∧ ∀ i, i < j → 0 ≤ Hm l (x.imps.getD i [])) (fun j : Nat => x.imps.length - j) 0 ?_ ?_ ?_
          · simp
          · ((try simp only [Gd, Gj, Gi, Gs, upd, Gt, G5, Hn, Nat.reduceDiv, Nat.reduceMod, Nat.reduceMul, Nat.reduceAdd, Nat.reduceEqDiff, List.set_cons_zero, List.set_cons_succ, if_true, if_false, reduceIte]); (first | refine Wk.of_fl ?_ | skip); simp only [Wk, wkK, Ht, wkT, wk1, AV.kept, keptAll, wkO, lk, Ge, and_true, true_and, and_self, Nat.reduceEqDiff, Nat.reduceLeDiff, if_true, if_false, reduceIte, reduceCtorEq, Option.isSome, false_implies]; try simp [Wk, wkK, wkT, wk1, AV.kept, keptAll, wkO, lk, Ge])
          rintro j ⟨hj, hnj⟩
          rcases Hg j x.imps.length with ⟨hjl, hjb⟩ | ⟨hjl, hjb⟩
          · have q2 := Hp ([] : List UInt8) hjl
            have hsj : ltB (Hm l (x.imps.getD j [])) 0 = false → ∀ i, i < j + 1 → 0 ≤ Hm l (x.imps.getD i []) := fun h => Ok hnj (by rw [Hq] at h; omega)
            have hbj : ltB (Hm l (x.imps.getD j [])) 0 = true → R1 = ⟨[]⟩ ∧ R2 = k ∧ R3 = 6 := fun h => hit (any_at (p := fun s => ltB (Hm l s) 0) [] j hjl h)
            obtain ⟨y, hy⟩ : ∃ y, x.imps.getD j [] = y := ⟨_, rfl⟩
            rw [hy] at q2 hsj hbj
            cases hb : ltB (Hm l y) 0 with
            | true =>
              obtain ⟨e1, e2, e3⟩ := hbj hb
              subst e1 e2 e3
              (sym =>
               simp [hlb,hjb,q1,q2,hb,hR,M3.eq_def,Gg,szM,H8,Na,H9,Nb,H7,H6,G6.eq_def,H3.eq_def,G9.eq_def,Ho.eq_def,Gr.eq_def,Hs.eq_def,Za,Zb,Zc,Zd,Ze,Zf,Zg,Zn,Zo,Zp,Zq,Zr,Zs,Zt,Zv,Zw,Zx,Zy,Z0,Z2,Z3,Z4,Z5,Z7,Z8,Z9,Qa,Qb,Qc,Qd,Qe,Qf,Qi,Qj,Qk,Ql,Qm,Qn,Qo,Qq,Qw,Qx,Qz,Q3,Q4,Q5,Q6,Q7,Q8,Q9,Ja,Jb,Jc,Jd,Je,Jf,Jg,Jn,Jr,Js,Jt,Ju,Jv,Jw,Jz,J0,J1,J2,J3,J4,J5,J6,J7,J8,J9,Xa,Xb,Xc,Xd,Xe,Xf,Xg,Xh,Xi,Xj,Xk,Xl,Xm,Xn,Xo,Xp,Xq,Xr,Xs,Xt,Xu,Xv,Xw,Xx,Xy,Xz,X0,X1,X2,X3,X4,X5,X6,X7,X8,X9,Wa,Wb,Wc,Wf,Wg,Wh,Wi,Wj,Wl,Wm,Wn,Wo,Wp,Wq,Wr,Ws,Wt,Wu,Wv,Ww,Wx,Wy,Wz,W0,W3,W4,W5,W6,W7,W8,W9,Ya,Yb,Yc,Yf,Yg,Yh,Yi,Yj,Yk,Yl,Ym,Yn,Yo,Yp,Yq,Yr,Ys,Yt,Yu,Yv,Yw,Yx,Yy,Yz,Y0,Y1,Y2,Y3,Y4,Y5,Y6,Y7,Y8,Y9,Va,Vb,Vc,Vd,Ve,Vf,Vg,Vh,Vi,Vj,Vk,Vl,Vm,Vn,Vo,Vp,Vq,Vr,Vs,Vt,Vu,Vv,Vw,Vx,Vy,Vz,V0,V1,V2,V3,V4,V5,V6,V7,V8,V9,Ua,Ub,Uc,Ud,Ue,Uf,Ug,Uh,Ui,Uj,Uk,Ul,Um,Un,Uo,Up,Uq,Ur,Us,Ut,Uu,Uv,Uw,Ux,Uy,Uz,U0,U1,U2,U3,U4,U5,U6,U7,U8,U9,Ka,Kb,Kc,Kd,Ke,Kf,Kg,Kh,Ki,Kj,Kk,Kl,Km,Kn,Ko,Kq,Kr,Ks,Kt,Ku,K1,K2,K3,K4,K5,K6,K7,Ga,Gx,Hd,Hb,Gq,Hi,Gy,Gp,Nl]
               tactic =>
                try simp only [Gl] at *
                try simp only [nc2] at *
                try simp (maxSteps := 4000000) only [hlb,hjb,q1,q2,hb,hR,M3.eq_def,Gg,szM,G4]
                repeat' (first | with_reducible assumption | with_reducible refine And.intro ?_ ?_ | intro _ | omega | (rw [Gb]; omega))
                all_goals first
                  | (with_reducible refine G7 ?_; kernel_rfl)
                  | omega
                  | trivial
                  | rfl
                  | skip)
            | false =>
              have hs := hsj hb
              (sym =>
               simp [hlb,hjb,q1,q2,hb,Gg,szM,H8,Na,H9,Nb,H7,H6,G6.eq_def,H3.eq_def,G9.eq_def,Ho.eq_def,Gr.eq_def,Hs.eq_def,Za,Zb,Zc,Zd,Ze,Zf,Zg,Zn,Zo,Zp,Zq,Zr,Zs,Zt,Zv,Zw,Zx,Zy,Z0,Z2,Z3,Z4,Z5,Z7,Z8,Z9,Qa,Qb,Qc,Qd,Qe,Qf,Qi,Qj,Qk,Ql,Qm,Qn,Qo,Qq,Qw,Qx,Qz,Q3,Q4,Q5,Q6,Q7,Q8,Q9,Ja,Jb,Jc,Jd,Je,Jf,Jg,Jn,Jr,Js,Jt,Ju,Jv,Jw,Jz,J0,J1,J2,J3,J4,J5,J6,J7,J8,J9,Xa,Xb,Xc,Xd,Xe,Xf,Xg,Xh,Xi,Xj,Xk,Xl,Xm,Xn,Xo,Xp,Xq,Xr,Xs,Xt,Xu,Xv,Xw,Xx,Xy,Xz,X0,X1,X2,X3,X4,X5,X6,X7,X8,X9,Wa,Wb,Wc,Wf,Wg,Wh,Wi,Wj,Wl,Wm,Wn,Wo,Wp,Wq,Wr,Ws,Wt,Wu,Wv,Ww,Wx,Wy,Wz,W0,W3,W4,W5,W6,W7,W8,W9,Ya,Yb,Yc,Yf,Yg,Yh,Yi,Yj,Yk,Yl,Ym,Yn,Yo,Yp,Yq,Yr,Ys,Yt,Yu,Yv,Yw,Yx,Yy,Yz,Y0,Y1,Y2,Y3,Y4,Y5,Y6,Y7,Y8,Y9,Va,Vb,Vc,Vd,Ve,Vf,Vg,Vh,Vi,Vj,Vk,Vl,Vm,Vn,Vo,Vp,Vq,Vr,Vs,Vt,Vu,Vv,Vw,Vx,Vy,Vz,V0,V1,V2,V3,V4,V5,V6,V7,V8,V9,Ua,Ub,Uc,Ud,Ue,Uf,Ug,Uh,Ui,Uj,Uk,Ul,Um,Un,Uo,Up,Uq,Ur,Us,Ut,Uu,Uv,Uw,Ux,Uy,Uz,U0,U1,U2,U3,U4,U5,U6,U7,U8,U9,Ka,Kb,Kc,Kd,Ke,Kf,Kg,Kh,Ki,Kj,Kk,Kl,Km,Kn,Ko,Kq,Kr,Ks,Kt,Ku,K1,K2,K3,K4,K5,K6,K7,Ga,Gx,Hd,Hb,Gq,Hi,Gy,Gp,Nl]
               tactic =>
                try simp only [Gl] at *
                try simp only [nc2] at *
                try simp (maxSteps := 4000000) only [hlb,hjb,q1,q2,hb,Gg,szM,G4]
                repeat' (first | with_reducible assumption | with_reducible refine And.intro ?_ ?_ | intro _ | omega | (rw [Gb]; omega))
                all_goals first
                  | (with_reducible refine G7 ?_; kernel_rfl)
                  | omega
                  | exact ⟨j + 1, by ((try simp only [Gd, Gj, Gi, Gs, upd, Gt, G5, Hn, Nat.reduceDiv, Nat.reduceMod, Nat.reduceMul, Nat.reduceAdd, Nat.reduceEqDiff, List.set_cons_zero, List.set_cons_succ, if_true, if_false, reduceIte]); (first | refine Wk.of_fl ?_ | skip); simp only [Wk, wkK, Ht, wkT, wk1, AV.kept, keptAll, wkO, lk, Ge, and_true, true_and, and_self, Nat.reduceEqDiff, Nat.reduceLeDiff, if_true, if_false, reduceIte, reduceCtorEq, Option.isSome, false_implies]; try simp [Wk, wkK, wkT, wk1, AV.kept, keptAll, wkO, lk, Ge]), by omega, hs, by omega⟩
                  | skip)
          · have hs := hst (any_not (p := fun s => ltB (Hm l s) 0) [] fun i hi => by have := hnj i (by omega); rw [Hq]; omega)
            (sym =>
             simp [hlb,hjb,q1,Gg,szM,H8,Na,H9,Nb,H7,H6,G6.eq_def,H3.eq_def,G9.eq_def,Ho.eq_def,Gr.eq_def,Hs.eq_def,Za,Zb,Zc,Zd,Ze,Zf,Zg,Zn,Zo,Zp,Zq,Zr,Zs,Zt,Zv,Zw,Zx,Zy,Z0,Z2,Z3,Z4,Z5,Z7,Z8,Z9,Qa,Qb,Qc,Qd,Qe,Qf,Qi,Qj,Qk,Ql,Qm,Qn,Qo,Qq,Qw,Qx,Qz,Q3,Q4,Q5,Q6,Q7,Q8,Q9,Ja,Jb,Jc,Jd,Je,Jf,Jg,Jn,Jr,Js,Jt,Ju,Jv,Jw,Jz,J0,J1,J2,J3,J4,J5,J6,J7,J8,J9,Xa,Xb,Xc,Xd,Xe,Xf,Xg,Xh,Xi,Xj,Xk,Xl,Xm,Xn,Xo,Xp,Xq,Xr,Xs,Xt,Xu,Xv,Xw,Xx,Xy,Xz,X0,X1,X2,X3,X4,X5,X6,X7,X8,X9,Wa,Wb,Wc,Wf,Wg,Wh,Wi,Wj,Wl,Wm,Wn,Wo,Wp,Wq,Wr,Ws,Wt,Wu,Wv,Ww,Wx,Wy,Wz,W0,W3,W4,W5,W6,W7,W8,W9,Ya,Yb,Yc,Yf,Yg,Yh,Yi,Yj,Yk,Yl,Ym,Yn,Yo,Yp,Yq,Yr,Ys,Yt,Yu,Yv,Yw,Yx,Yy,Yz,Y0,Y1,Y2,Y3,Y4,Y5,Y6,Y7,Y8,Y9,Va,Vb,Vc,Vd,Ve,Vf,Vg,Vh,Vi,Vj,Vk,Vl,Vm,Vn,Vo,Vp,Vq,Vr,Vs,Vt,Vu,Vv,Vw,Vx,Vy,Vz,V0,V1,V2,V3,V4,V5,V6,V7,V8,V9,Ua,Ub,Uc,Ud,Ue,Uf,Ug,Uh,Ui,Uj,Uk,Ul,Um,Un,Uo,Up,Uq,Ur,Us,Ut,Uu,Uv,Uw,Ux,Uy,Uz,U0,U1,U2,U3,U4,U5,U6,U7,U8,U9,Ka,Kb,Kc,Kd,Ke,Kf,Kg,Kh,Ki,Kj,Kk,Kl,Km,Kn,Ko,Kq,Kr,Ks,Kt,Ku,K1,K2,K3,K4,K5,K6,K7,Ga,Gx,Hd,Hb,Gq,Hi,Gy,Gp,Nl]
             tactic =>
              try simp only [Gl] at *
              try simp only [nc2] at *
              try simp (maxSteps := 4000000) only [hlb,hjb,q1,Gg,szM,G4]
              repeat' (first | with_reducible assumption | with_reducible refine And.intro ?_ ?_ | intro _ | omega | (rw [Gb]; omega))
              all_goals first
                | (with_reducible refine G7 ?_; kernel_rfl)
                | omega
                | exact ⟨k + 1, by ((try simp only [Gd, Gj, Gi, Gs, upd, Gt, G5, Hn, Nat.reduceDiv, Nat.reduceMod, Nat.reduceMul, Nat.reduceAdd, Nat.reduceEqDiff, List.set_cons_zero, List.set_cons_succ, if_true, if_false, reduceIte]); (first | refine Wk.of_fl ?_ | skip); simp only [Wk, wkK, Ht, wkT, wk1, AV.kept, keptAll, wkO, lk, Ge, and_true, true_and, and_self, Nat.reduceEqDiff, Nat.reduceLeDiff, if_true, if_false, reduceIte, reduceCtorEq, Option.isSome, false_implies]; try simp [Wk, wkK, wkT, wk1, AV.kept, keptAll, wkO, lk, Ge]), by omega, hs, by omega⟩
                | skip))
      have hlack := first_no (p := C5 l) (n := l.length) fun j hj => hno j (by omega)
      rw [hlack] at hR2
      simp only at hR2
      clear hno
      (sym =>
       simp [hlb,szM,H8,Na,H9,Nb,H7,H6,G6.eq_def,H3.eq_def,G9.eq_def,Ho.eq_def,Gr.eq_def,Hs.eq_def,Za,Zb,Zc,Zd,Ze,Zf,Zg,Zn,Zo,Zp,Zq,Zr,Zs,Zt,Zv,Zw,Zx,Zy,Z0,Z2,Z3,Z4,Z5,Z7,Z8,Z9,Qa,Qb,Qc,Qd,Qe,Qf,Qi,Qj,Qk,Ql,Qm,Qn,Qo,Qq,Qw,Qx,Qz,Q3,Q4,Q5,Q6,Q7,Q8,Q9,Ja,Jb,Jc,Jd,Je,Jf,Jg,Jn,Jr,Js,Jt,Ju,Jv,Jw,Jz,J0,J1,J2,J3,J4,J5,J6,J7,J8,J9,Xa,Xb,Xc,Xd,Xe,Xf,Xg,Xh,Xi,Xj,Xk,Xl,Xm,Xn,Xo,Xp,Xq,Xr,Xs,Xt,Xu,Xv,Xw,Xx,Xy,Xz,X0,X1,X2,X3,X4,X5,X6,X7,X8,X9,Wa,Wb,Wc,Wf,Wg,Wh,Wi,Wj,Wl,Wm,Wn,Wo,Wp,Wq,Wr,Ws,Wt,Wu,Wv,Ww,Wx,Wy,Wz,W0,W3,W4,W5,W6,W7,W8,W9,Ya,Yb,Yc,Yf,Yg,Yh,Yi,Yj,Yk,Yl,Ym,Yn,Yo,Yp,Yq,Yr,Ys,Yt,Yu,Yv,Yw,Yx,Yy,Yz,Y0,Y1,Y2,Y3,Y4,Y5,Y6,Y7,Y8,Y9,Va,Vb,Vc,Vd,Ve,Vf,Vg,Vh,Vi,Vj,Vk,Vl,Vm,Vn,Vo,Vp,Vq,Vr,Vs,Vt,Vu,Vv,Vw,Vx,Vy,Vz,V0,V1,V2,V3,V4,V5,V6,V7,V8,V9,Ua,Ub,Uc,Ud,Ue,Uf,Ug,Uh,Ui,Uj,Uk,Ul,Um,Un,Uo,Up,Uq,Ur,Us,Ut,Uu,Uv,Uw,Ux,Uy,Uz,U0,U1,U2,U3,U4,U5,U6,U7,U8,U9,Ka,Kb,Kc,Kd,Ke,Kf,Kg,Kh,Ki,Kj,Kk,Kl,Km,Kn,Ko,Kq,Kr,Ks,Kt,Ku,K1,K2,K3,K4,K5,K6,K7,Ga,Gx,Hd,Hb,Gq,Hi,Gy,Gp,Nl]
       tactic =>
        try simp only [Gl] at *
        try simp only [nc2] at *
        try simp (maxSteps := 4000000) only [hlb,szM,G4]
        repeat' (first | with_reducible assumption | with_reducible refine And.intro ?_ ?_ | intro _ | omega | (rw [Gb]; omega))
        refine Ha [61, 62, 63, 64, 65, 66, 67, 68, 69, 70, 71, 72, 73, 74, 75] (fun k : Nat => [(9, .d (.int .i64 k))]) (fun k : Nat => [(60, .row 1 ((Cm (E2 l) l.length k).map enc) 0)]) (fun k : Nat => k ≤ l.length) (fun k : Nat => l.length - k) 0 ?_ ?_ ?_
        · omega
        · ((try simp only [Gd, Gj, Gi, Gs, upd, Gt, G5, Hn, Nat.reduceDiv, Nat.reduceMod, Nat.reduceMul, Nat.reduceAdd, Nat.reduceEqDiff, List.set_cons_zero, List.set_cons_succ, if_true, if_false, reduceIte]); (first | refine Wk.of_fl ?_ | skip); simp only [Wk, wkK, Ht, wkT, wk1, AV.kept, keptAll, wkO, lk, Ge, and_true, true_and, and_self, Nat.reduceEqDiff, Nat.reduceLeDiff, if_true, if_false, reduceIte, reduceCtorEq, Option.isSome, false_implies]; try simp [Wk, wkK, wkT, wk1, AV.kept, keptAll, wkO, lk, Ge, Cm, List.map_replicate])
        clear hlb hlt hk
        rintro k hk
        have hbl := Rm (E2 l) l.length k
        have hS3 : Cm (E2 l) l.length (k + 1) = (Cm (E2 l) l.length k).set k ((H2 l (k : Int)).getD k false) := rfl
        rcases Hg k l.length with ⟨hlt, hlb⟩ | ⟨hlt, hlb⟩
        · obtain ⟨b, hb⟩ : ∃ b, Cm (E2 l) l.length k = b := ⟨_, rfl⟩
          rw [hb] at hbl hS3 ⊢
          have hrl : (H2 l (k : Int)).length = l.length := Mq _
          have q2 := Hp false (show k < (H2 l (k : Int)).length by omega)
          have q3 := Hp false (show k < b.length by omega)
          obtain ⟨c1, hcc⟩ : ∃ c1, (H2 l (k : Int)).getD k false = c1 := ⟨_, rfl⟩
          obtain ⟨c2, hcd⟩ : ∃ c1, b.getD k false = c1 := ⟨_, rfl⟩
          rw [hcc] at q2 hS3
          rw [hcd] at q3
          have hms : (b.map (enc : Bool → D)).set k (.bool c1) = (b.set k c1).map enc := by rw [List.map_set]; rfl
          obtain ⟨rb, hrb⟩ : ∃ rb, H2 l (k : Int) = rb := ⟨_, rfl⟩
          rw [hrb] at hrl q2
          (sym =>
           simp [hlb,hrb,q2,q3,hrl,hbl,szM,H8,Na,H9,Nb,H7,H6,G6.eq_def,H3.eq_def,G9.eq_def,Ho.eq_def,Gr.eq_def,Hs.eq_def,Za,Zb,Zc,Zd,Ze,Zf,Zg,Zn,Zo,Zp,Zq,Zr,Zs,Zt,Zv,Zw,Zx,Zy,Z0,Z2,Z3,Z4,Z5,Z7,Z8,Z9,Qa,Qb,Qc,Qd,Qe,Qf,Qi,Qj,Qk,Ql,Qm,Qn,Qo,Qq,Qw,Qx,Qz,Q3,Q4,Q5,Q6,Q7,Q8,Q9,Ja,Jb,Jc,Jd,Je,Jf,Jg,Jn,Jr,Js,Jt,Ju,Jv,Jw,Jz,J0,J1,J2,J3,J4,J5,J6,J7,J8,J9,Xa,Xb,Xc,Xd,Xe,Xf,Xg,Xh,Xi,Xj,Xk,Xl,Xm,Xn,Xo,Xp,Xq,Xr,Xs,Xt,Xu,Xv,Xw,Xx,Xy,Xz,X0,X1,X2,X3,X4,X5,X6,X7,X8,X9,Wa,Wb,Wc,Wf,Wg,Wh,Wi,Wj,Wl,Wm,Wn,Wo,Wp,Wq,Wr,Ws,Wt,Wu,Wv,Ww,Wx,Wy,Wz,W0,W3,W4,W5,W6,W7,W8,W9,Ya,Yb,Yc,Yf,Yg,Yh,Yi,Yj,Yk,Yl,Ym,Yn,Yo,Yp,Yq,Yr,Ys,Yt,Yu,Yv,Yw,Yx,Yy,Yz,Y0,Y1,Y2,Y3,Y4,Y5,Y6,Y7,Y8,Y9,Va,Vb,Vc,Vd,Ve,Vf,Vg,Vh,Vi,Vj,Vk,Vl,Vm,Vn,Vo,Vp,Vq,Vr,Vs,Vt,Vu,Vv,Vw,Vx,Vy,Vz,V0,V1,V2,V3,V4,V5,V6,V7,V8,V9,Ua,Ub,Uc,Ud,Ue,Uf,Ug,Uh,Ui,Uj,Uk,Ul,Um,Un,Uo,Up,Uq,Ur,Us,Ut,Uu,Uv,Uw,Ux,Uy,Uz,U0,U1,U2,U3,U4,U5,U6,U7,U8,U9,Ka,Kb,Kc,Kd,Ke,Kf,Kg,Kh,Ki,Kj,Kk,Kl,Km,Kn,Ko,Kq,Kr,Ks,Kt,Ku,K1,K2,K3,K4,K5,K6,K7,Ga,Gx,Hd,Hb,Gq,Hi,Gy,Gp,Nl]
           tactic =>
            try simp only [Gl] at *
            try simp only [nc2] at *
            try simp (maxSteps := 4000000) only [hlb,hrb,q2,q3,hrl,hbl,szM,G4]
            repeat' (first | with_reducible assumption | with_reducible refine And.intro ?_ ?_ | intro _ | omega | (rw [Gb]; omega))
            all_goals first
              | (with_reducible refine G7 ?_; kernel_rfl)
              | omega
              | exact ⟨k + 1, by rw [hS3, ← hms]; ((try simp only [Gd, Gj, Gi, Gs, upd, Gt, G5, Hn, Nat.reduceDiv, Nat.reduceMod, Nat.reduceMul, Nat.reduceAdd, Nat.reduceEqDiff, List.set_cons_zero, List.set_cons_succ, if_true, if_false, reduceIte]); (first | refine Wk.of_fl ?_ | skip); simp only [Wk, wkK, Ht, wkT, wk1, AV.kept, keptAll, wkO, lk, Ge, and_true, true_and, and_self, Nat.reduceEqDiff, Nat.reduceLeDiff, if_true, if_false, reduceIte, reduceCtorEq, Option.isSome, false_implies]; try simp [Wk, wkK, wkT, wk1, AV.kept, keptAll, wkO, lk, Ge]), by omega, by omega⟩
              | skip)
        have hkl : k = l.length := by omega
        rw [hkl, Ob] at hbl
        rw [hkl, Ob]
        obtain ⟨cy, hcy⟩ : ∃ cy, (List.range l.length).map (E2 l) = cy := ⟨_, rfl⟩
        rw [hcy] at hbl hR2 ⊢
        rw [hkl] at hlb
        obtain ⟨best, hbest⟩ : ∃ z, Mt l cy l.length = z := ⟨_, rfl⟩
        rw [hbest] at hR2
        cases hb0 : leB 0 best with
        | true =>
          rw [hb0, cond_true] at hR2
          injection hR2 with e1 e2
          injection e2 with e2 e3
          subst e1 e2 e3
          (sym =>
           simp [hlb,hbest,hb0,hbl,hR,M3.eq_def,szM,H8,Na,H9,Nb,H7,H6,G6.eq_def,H3.eq_def,G9.eq_def,Ho.eq_def,Gr.eq_def,Hs.eq_def,Za,Zb,Zc,Zd,Ze,Zf,Zg,Zn,Zo,Zp,Zq,Zr,Zs,Zt,Zv,Zw,Zx,Zy,Z0,Z2,Z3,Z4,Z5,Z7,Z8,Z9,Qa,Qb,Qc,Qd,Qe,Qf,Qi,Qj,Qk,Ql,Qm,Qn,Qo,Qq,Qw,Qx,Qz,Q3,Q4,Q5,Q6,Q7,Q8,Q9,Ja,Jb,Jc,Jd,Je,Jf,Jg,Jn,Jr,Js,Jt,Ju,Jv,Jw,Jz,J0,J1,J2,J3,J4,J5,J6,J7,J8,J9,Xa,Xb,Xc,Xd,Xe,Xf,Xg,Xh,Xi,Xj,Xk,Xl,Xm,Xn,Xo,Xp,Xq,Xr,Xs,Xt,Xu,Xv,Xw,Xx,Xy,Xz,X0,X1,X2,X3,X4,X5,X6,X7,X8,X9,Wa,Wb,Wc,Wf,Wg,Wh,Wi,Wj,Wl,Wm,Wn,Wo,Wp,Wq,Wr,Ws,Wt,Wu,Wv,Ww,Wx,Wy,Wz,W0,W3,W4,W5,W6,W7,W8,W9,Ya,Yb,Yc,Yf,Yg,Yh,Yi,Yj,Yk,Yl,Ym,Yn,Yo,Yp,Yq,Yr,Ys,Yt,Yu,Yv,Yw,Yx,Yy,Yz,Y0,Y1,Y2,Y3,Y4,Y5,Y6,Y7,Y8,Y9,Va,Vb,Vc,Vd,Ve,Vf,Vg,Vh,Vi,Vj,Vk,Vl,Vm,Vn,Vo,Vp,Vq,Vr,Vs,Vt,Vu,Vv,Vw,Vx,Vy,Vz,V0,V1,V2,V3,V4,V5,V6,V7,V8,V9,Ua,Ub,Uc,Ud,Ue,Uf,Ug,Uh,Ui,Uj,Uk,Ul,Um,Un,Uo,Up,Uq,Ur,Us,Ut,Uu,Uv,Uw,Ux,Uy,Uz,U0,U1,U2,U3,U4,U5,U6,U7,U8,U9,Ka,Kb,Kc,Kd,Ke,Kf,Kg,Kh,Ki,Kj,Kk,Kl,Km,Kn,Ko,Kq,Kr,Ks,Kt,Ku,K1,K2,K3,K4,K5,K6,K7,Ga,Gx,Hd,Hb,Gq,Hi,Gy,Gp,Nl]
           tactic =>
            try simp only [Gl] at *
            try simp only [nc2] at *
            try simp (maxSteps := 4000000) only [hlb,hbest,hb0,hbl,hR,M3.eq_def,szM,G4]
            repeat' (first | with_reducible assumption | with_reducible refine And.intro ?_ ?_ | intro _ | omega | (rw [Gb]; omega))
            all_goals first
              | (with_reducible refine G7 ?_; kernel_rfl)
              | omega
              | trivial
              | rfl
              | skip)
        | false =>
        rw [hb0, cond_false] at hR2
        injection hR2 with e1 e2
        injection e2 with e2 e3
        subst e1 e2 e3
        (sym =>
         simp [hlb,hbest,hb0,hbl,szM,H8,Na,H9,Nb,H7,H6,G6.eq_def,H3.eq_def,G9.eq_def,Ho.eq_def,Gr.eq_def,Hs.eq_def,Za,Zb,Zc,Zd,Ze,Zf,Zg,Zn,Zo,Zp,Zq,Zr,Zs,Zt,Zv,Zw,Zx,Zy,Z0,Z2,Z3,Z4,Z5,Z7,Z8,Z9,Qa,Qb,Qc,Qd,Qe,Qf,Qi,Qj,Qk,Ql,Qm,Qn,Qo,Qq,Qw,Qx,Qz,Q3,Q4,Q5,Q6,Q7,Q8,Q9,Ja,Jb,Jc,Jd,Je,Jf,Jg,Jn,Jr,Js,Jt,Ju,Jv,Jw,Jz,J0,J1,J2,J3,J4,J5,J6,J7,J8,J9,Xa,Xb,Xc,Xd,Xe,Xf,Xg,Xh,Xi,Xj,Xk,Xl,Xm,Xn,Xo,Xp,Xq,Xr,Xs,Xt,Xu,Xv,Xw,Xx,Xy,Xz,X0,X1,X2,X3,X4,X5,X6,X7,X8,X9,Wa,Wb,Wc,Wf,Wg,Wh,Wi,Wj,Wl,Wm,Wn,Wo,Wp,Wq,Wr,Ws,Wt,Wu,Wv,Ww,Wx,Wy,Wz,W0,W3,W4,W5,W6,W7,W8,W9,Ya,Yb,Yc,Yf,Yg,Yh,Yi,Yj,Yk,Yl,Ym,Yn,Yo,Yp,Yq,Yr,Ys,Yt,Yu,Yv,Yw,Yx,Yy,Yz,Y0,Y1,Y2,Y3,Y4,Y5,Y6,Y7,Y8,Y9,Va,Vb,Vc,Vd,Ve,Vf,Vg,Vh,Vi,Vj,Vk,Vl,Vm,Vn,Vo,Vp,Vq,Vr,Vs,Vt,Vu,Vv,Vw,Vx,Vy,Vz,V0,V1,V2,V3,V4,V5,V6,V7,V8,V9,Ua,Ub,Uc,Ud,Ue,Uf,Ug,Uh,Ui,Uj,Uk,Ul,Um,Un,Uo,Up,Uq,Ur,Us,Ut,Uu,Uv,Uw,Ux,Uy,Uz,U0,U1,U2,U3,U4,U5,U6,U7,U8,U9,Ka,Kb,Kc,Kd,Ke,Kf,Kg,Kh,Ki,Kj,Kk,Kl,Km,Kn,Ko,Kq,Kr,Ks,Kt,Ku,K1,K2,K3,K4,K5,K6,K7,Ga,Gx,Hd,Hb,Gq,Hi,Gy,Gp,Nl]
         tactic =>
          try simp only [Gl] at *
          try simp only [nc2] at *
          try simp (maxSteps := 4000000) only [hlb,hbest,hb0,hbl,szM,G4]
          repeat' (first | with_reducible assumption | with_reducible refine And.intro ?_ ?_ | intro _ | omega | (rw [Gb]; omega))
          all_goals try omega
          refine Ha [12, 13, 86, 87, 88, 89, 90, 91, 92, 93, 94, 95, 96, 97, 98, 99, 100, 101, 102, 103, 104, 105, 106, 107, 108, 109, 110, 111, 112, 113, 114, 115] (fun q : Nat × Nat => [(11, .sl 82 ((Ol l q.1).map (enc : Int → D)).length), (85, .d (.int .i64 q.1))]) (fun q : Nat × Nat => [(82, .row 1 ((Ol l q.1).map enc) q.2)]) (fun q : Nat × Nat => q.1 ≤ l.length ∧ q.2 ≤ q.1) (fun q : Nat × Nat => l.length - q.1) (0, 0) ?_ ?_ ?_
          · simp
          · ((try simp only [Gd, Gj, Gi, Gs, upd, Gt, G5, Hn, Nat.reduceDiv, Nat.reduceMod, Nat.reduceMul, Nat.reduceAdd, Nat.reduceEqDiff, List.set_cons_zero, List.set_cons_succ, if_true, if_false, reduceIte]); (first | refine Wk.of_fl ?_ | skip); simp only [Wk, wkK, Ht, wkT, wk1, AV.kept, keptAll, wkO, lk, Ge, and_true, true_and, and_self, Nat.reduceEqDiff, Nat.reduceLeDiff, if_true, if_false, reduceIte, reduceCtorEq, Option.isSome, false_implies]; try simp [Wk, wkK, wkT, wk1, AV.kept, keptAll, wkO, lk, Ge, Ol])
          clear hlb
          rintro ⟨r, fz⟩ ⟨hr, hfz⟩
          simp only at hr hfz ⊢
          have hol := outN_len l r
          have hoS : Ol l (r + 1) = Ol l r ++ [Mt l ((List.range l.length).map (mayB l (Ol l r))) l.length] := rfl
          rcases Hg r l.length with ⟨hrlt, hrb⟩ | ⟨hrlt, hrb⟩
          · obtain ⟨o, ho⟩ : ∃ o, Ol l r = o := ⟨_, rfl⟩
            obtain ⟨o2, ho2⟩ : ∃ o, Ol l (r + 1) = o := ⟨_, rfl⟩
            rw [ho] at hol
            rw [ho, ho2] at hoS
            rw [ho]
            (sym =>
             simp [hrb,hol,szM,H8,Na,H9,Nb,H7,H6,G6.eq_def,H3.eq_def,G9.eq_def,Ho.eq_def,Gr.eq_def,Hs.eq_def,Za,Zb,Zc,Zd,Ze,Zf,Zg,Zn,Zo,Zp,Zq,Zr,Zs,Zt,Zv,Zw,Zx,Zy,Z0,Z2,Z3,Z4,Z5,Z7,Z8,Z9,Qa,Qb,Qc,Qd,Qe,Qf,Qi,Qj,Qk,Ql,Qm,Qn,Qo,Qq,Qw,Qx,Qz,Q3,Q4,Q5,Q6,Q7,Q8,Q9,Ja,Jb,Jc,Jd,Je,Jf,Jg,Jn,Jr,Js,Jt,Ju,Jv,Jw,Jz,J0,J1,J2,J3,J4,J5,J6,J7,J8,J9,Xa,Xb,Xc,Xd,Xe,Xf,Xg,Xh,Xi,Xj,Xk,Xl,Xm,Xn,Xo,Xp,Xq,Xr,Xs,Xt,Xu,Xv,Xw,Xx,Xy,Xz,X0,X1,X2,X3,X4,X5,X6,X7,X8,X9,Wa,Wb,Wc,Wf,Wg,Wh,Wi,Wj,Wl,Wm,Wn,Wo,Wp,Wq,Wr,Ws,Wt,Wu,Wv,Ww,Wx,Wy,Wz,W0,W3,W4,W5,W6,W7,W8,W9,Ya,Yb,Yc,Yf,Yg,Yh,Yi,Yj,Yk,Yl,Ym,Yn,Yo,Yp,Yq,Yr,Ys,Yt,Yu,Yv,Yw,Yx,Yy,Yz,Y0,Y1,Y2,Y3,Y4,Y5,Y6,Y7,Y8,Y9,Va,Vb,Vc,Vd,Ve,Vf,Vg,Vh,Vi,Vj,Vk,Vl,Vm,Vn,Vo,Vp,Vq,Vr,Vs,Vt,Vu,Vv,Vw,Vx,Vy,Vz,V0,V1,V2,V3,V4,V5,V6,V7,V8,V9,Ua,Ub,Uc,Ud,Ue,Uf,Ug,Uh,Ui,Uj,Uk,Ul,Um,Un,Uo,Up,Uq,Ur,Us,Ut,Uu,Uv,Uw,Ux,Uy,Uz,U0,U1,U2,U3,U4,U5,U6,U7,U8,U9,Ka,Kb,Kc,Kd,Ke,Kf,Kg,Kh,Ki,Kj,Kk,Kl,Km,Kn,Ko,Kq,Kr,Ks,Kt,Ku,K1,K2,K3,K4,K5,K6,K7,Ga,Gx,Hd,Hb,Gq,Hi,Gy,Gp,Nl]
             tactic =>
              try simp only [Gl] at *
              try simp only [nc2] at *
              try simp (maxSteps := 4000000) only [hrb,hol,szM,G4]
              repeat' (first | with_reducible assumption | with_reducible refine And.intro ?_ ?_ | intro _ | omega | (rw [Gb]; omega))
              all_goals try omega
              refine Ha [90, 91, 92, 93, 94, 95, 96, 97, 98, 99, 100, 101, 102, 103, 104, 105, 106, 107, 108] (fun q : Nat × Nat => [(13, .d (.int .i64 q.1))]) (fun q : Nat × Nat => [(82, .row 1 (o.map enc) q.2), (89, .row 1 ((Cm (mayB l o) l.length q.1).map enc) 0)]) (fun q : Nat × Nat => q.1 ≤ l.length ∧ q.2 ≤ r) (fun q : Nat × Nat => l.length - q.1) (0, fz) ?_ ?_ ?_
              · simp
                omega
              · ((try simp only [Gd, Gj, Gi, Gs, upd, Gt, G5, Hn, Nat.reduceDiv, Nat.reduceMod, Nat.reduceMul, Nat.reduceAdd, Nat.reduceEqDiff, List.set_cons_zero, List.set_cons_succ, if_true, if_false, reduceIte]); (first | refine Wk.of_fl ?_ | skip); simp only [Wk, wkK, Ht, wkT, wk1, AV.kept, keptAll, wkO, lk, Ge, and_true, true_and, and_self, Nat.reduceEqDiff, Nat.reduceLeDiff, if_true, if_false, reduceIte, reduceCtorEq, Option.isSome, false_implies]; try simp [Wk, wkK, wkT, wk1, AV.kept, keptAll, wkO, lk, Ge, Cm, List.map_replicate])
              rintro ⟨k, gz⟩ ⟨hk, hgz⟩
              simp only at hk hgz ⊢
              have hbl := Rm (mayB l o) l.length k
              have hS : Cm (mayB l o) l.length (k + 1) = (Cm (mayB l o) l.length k).set k (!inB o (k : Int) && O9 l (k : Int) o) := rfl
              rcases Hg k l.length with ⟨hlt, hlb⟩ | ⟨hlt, hlb⟩
              · obtain ⟨b, hb⟩ : ∃ b, Cm (mayB l o) l.length k = b := ⟨_, rfl⟩
                rw [hb] at hbl hS ⊢
                have q3 := Hp false (show k < b.length by omega)
                obtain ⟨c2, hcd⟩ : ∃ c1, b.getD k false = c1 := ⟨_, rfl⟩
                rw [hcd] at q3
                have hms : ∀ v, (b.map (enc : Bool → D)).set k (.bool v) = (b.set k v).map enc := fun v => by rw [List.map_set]; rfl
                cases hin : inB o (k : Int) with
                | true =>
                  rw [hin] at hS
                  simp only [Bool.not_true, Bool.false_and] at hS
                  have hm1 := hms false
                  (sym =>
                   simp [hrb,hlb,hol,hin,q3,hbl,szM,H8,Na,H9,Nb,H7,H6,G6.eq_def,H3.eq_def,G9.eq_def,Ho.eq_def,Gr.eq_def,Hs.eq_def,Za,Zb,Zc,Zd,Ze,Zf,Zg,Zn,Zo,Zp,Zq,Zr,Zs,Zt,Zv,Zw,Zx,Zy,Z0,Z2,Z3,Z4,Z5,Z7,Z8,Z9,Qa,Qb,Qc,Qd,Qe,Qf,Qi,Qj,Qk,Ql,Qm,Qn,Qo,Qq,Qw,Qx,Qz,Q3,Q4,Q5,Q6,Q7,Q8,Q9,Ja,Jb,Jc,Jd,Je,Jf,Jg,Jn,Jr,Js,Jt,Ju,Jv,Jw,Jz,J0,J1,J2,J3,J4,J5,J6,J7,J8,J9,Xa,Xb,Xc,Xd,Xe,Xf,Xg,Xh,Xi,Xj,Xk,Xl,Xm,Xn,Xo,Xp,Xq,Xr,Xs,Xt,Xu,Xv,Xw,Xx,Xy,Xz,X0,X1,X2,X3,X4,X5,X6,X7,X8,X9,Wa,Wb,Wc,Wf,Wg,Wh,Wi,Wj,Wl,Wm,Wn,Wo,Wp,Wq,Wr,Ws,Wt,Wu,Wv,Ww,Wx,Wy,Wz,W0,W3,W4,W5,W6,W7,W8,W9,Ya,Yb,Yc,Yf,Yg,Yh,Yi,Yj,Yk,Yl,Ym,Yn,Yo,Yp,Yq,Yr,Ys,Yt,Yu,Yv,Yw,Yx,Yy,Yz,Y0,Y1,Y2,Y3,Y4,Y5,Y6,Y7,Y8,Y9,Va,Vb,Vc,Vd,Ve,Vf,Vg,Vh,Vi,Vj,Vk,Vl,Vm,Vn,Vo,Vp,Vq,Vr,Vs,Vt,Vu,Vv,Vw,Vx,Vy,Vz,V0,V1,V2,V3,V4,V5,V6,V7,V8,V9,Ua,Ub,Uc,Ud,Ue,Uf,Ug,Uh,Ui,Uj,Uk,Ul,Um,Un,Uo,Up,Uq,Ur,Us,Ut,Uu,Uv,Uw,Ux,Uy,Uz,U0,U1,U2,U3,U4,U5,U6,U7,U8,U9,Ka,Kb,Kc,Kd,Ke,Kf,Kg,Kh,Ki,Kj,Kk,Kl,Km,Kn,Ko,Kq,Kr,Ks,Kt,Ku,K1,K2,K3,K4,K5,K6,K7,Ga,Gx,Hd,Hb,Gq,Hi,Gy,Gp,Nl]
                   tactic =>
                    try simp only [Gl] at *
                    try simp only [nc2] at *
                    try simp (maxSteps := 4000000) only [hrb,hlb,hol,hin,q3,hbl,szM,G4]
                    repeat' (first | with_reducible assumption | with_reducible refine And.intro ?_ ?_ | intro _ | omega | (rw [Gb]; omega))
                    all_goals first
                      | (with_reducible refine G7 ?_; kernel_rfl)
                      | omega
                      | exact ⟨(k + 1, r), by simp only [hS, ← hm1]; ((try simp only [Gd, Gj, Gi, Gs, upd, Gt, G5, Hn, Nat.reduceDiv, Nat.reduceMod, Nat.reduceMul, Nat.reduceAdd, Nat.reduceEqDiff, List.set_cons_zero, List.set_cons_succ, if_true, if_false, reduceIte]); (first | refine Wk.of_fl ?_ | skip); simp only [Wk, wkK, Ht, wkT, wk1, AV.kept, keptAll, wkO, lk, Ge, and_true, true_and, and_self, Nat.reduceEqDiff, Nat.reduceLeDiff, if_true, if_false, reduceIte, reduceCtorEq, Option.isSome, false_implies]; try simp [Wk, wkK, wkT, wk1, AV.kept, keptAll, wkO, lk, Ge]), by simp only; omega, by simp only; omega, by simp only; omega⟩
                      | skip)
                | false =>
                  rw [hin] at hS
                  simp only [Bool.not_false, Bool.true_and] at hS
                  obtain ⟨v, hv⟩ : ∃ v, O9 l (k : Int) o = v := ⟨_, rfl⟩
                  rw [hv] at hS
                  have hm1 := hms v
                  (sym =>
                   simp [hrb,hlb,hol,hin,hv,q3,hbl,szM,H8,Na,H9,Nb,H7,H6,G6.eq_def,H3.eq_def,G9.eq_def,Ho.eq_def,Gr.eq_def,Hs.eq_def,Za,Zb,Zc,Zd,Ze,Zf,Zg,Zn,Zo,Zp,Zq,Zr,Zs,Zt,Zv,Zw,Zx,Zy,Z0,Z2,Z3,Z4,Z5,Z7,Z8,Z9,Qa,Qb,Qc,Qd,Qe,Qf,Qi,Qj,Qk,Ql,Qm,Qn,Qo,Qq,Qw,Qx,Qz,Q3,Q4,Q5,Q6,Q7,Q8,Q9,Ja,Jb,Jc,Jd,Je,Jf,Jg,Jn,Jr,Js,Jt,Ju,Jv,Jw,Jz,J0,J1,J2,J3,J4,J5,J6,J7,J8,J9,Xa,Xb,Xc,Xd,Xe,Xf,Xg,Xh,Xi,Xj,Xk,Xl,Xm,Xn,Xo,Xp,Xq,Xr,Xs,Xt,Xu,Xv,Xw,Xx,Xy,Xz,X0,X1,X2,X3,X4,X5,X6,X7,X8,X9,Wa,Wb,Wc,Wf,Wg,Wh,Wi,Wj,Wl,Wm,Wn,Wo,Wp,Wq,Wr,Ws,Wt,Wu,Wv,Ww,Wx,Wy,Wz,W0,W3,W4,W5,W6,W7,W8,W9,Ya,Yb,Yc,Yf,Yg,Yh,Yi,Yj,Yk,Yl,Ym,Yn,Yo,Yp,Yq,Yr,Ys,Yt,Yu,Yv,Yw,Yx,Yy,Yz,Y0,Y1,Y2,Y3,Y4,Y5,Y6,Y7,Y8,Y9,Va,Vb,Vc,Vd,Ve,Vf,Vg,Vh,Vi,Vj,Vk,Vl,Vm,Vn,Vo,Vp,Vq,Vr,Vs,Vt,Vu,Vv,Vw,Vx,Vy,Vz,V0,V1,V2,V3,V4,V5,V6,V7,V8,V9,Ua,Ub,Uc,Ud,Ue,Uf,Ug,Uh,Ui,Uj,Uk,Ul,Um,Un,Uo,Up,Uq,Ur,Us,Ut,Uu,Uv,Uw,Ux,Uy,Uz,U0,U1,U2,U3,U4,U5,U6,U7,U8,U9,Ka,Kb,Kc,Kd,Ke,Kf,Kg,Kh,Ki,Kj,Kk,Kl,Km,Kn,Ko,Kq,Kr,Ks,Kt,Ku,K1,K2,K3,K4,K5,K6,K7,Ga,Gx,Hd,Hb,Gq,Hi,Gy,Gp,Nl]
                   tactic =>
                    try simp only [Gl] at *
                    try simp only [nc2] at *
                    try simp (maxSteps := 4000000) only [hrb,hlb,hol,hin,hv,q3,hbl,szM,G4]
                    repeat' (first | with_reducible assumption | with_reducible refine And.intro ?_ ?_ | intro _ | omega | (rw [Gb]; omega))
                    all_goals first
                      | (with_reducible refine G7 ?_; kernel_rfl)
                      | omega
                      | exact ⟨(k + 1, r), by simp only [hS, ← hm1]; ((try simp only [Gd, Gj, Gi, Gs, upd, Gt, G5, Hn, Nat.reduceDiv, Nat.reduceMod, Nat.reduceMul, Nat.reduceAdd, Nat.reduceEqDiff, List.set_cons_zero, List.set_cons_succ, if_true, if_false, reduceIte]); (first | refine Wk.of_fl ?_ | skip); simp only [Wk, wkK, Ht, wkT, wk1, AV.kept, keptAll, wkO, lk, Ge, and_true, true_and, and_self, Nat.reduceEqDiff, Nat.reduceLeDiff, if_true, if_false, reduceIte, reduceCtorEq, Option.isSome, false_implies]; try simp [Wk, wkK, wkT, wk1, AV.kept, keptAll, wkO, lk, Ge]), by simp only; omega, by simp only; omega, by simp only; omega⟩
                      | skip)
              · have hkl2 : k = l.length := by omega
                rw [hkl2, Ob] at hbl
                rw [hkl2] at hlb
                rw [hkl2, Ob]
                obtain ⟨my, hmy⟩ : ∃ my, (List.range l.length).map (mayB l o) = my := ⟨_, rfl⟩
                rw [hmy] at hbl hoS ⊢
                obtain ⟨z, hz⟩ : ∃ z, Mt l my l.length = z := ⟨_, rfl⟩
                rw [hz] at hoS
                (sym =>
                 simp [hrb,hlb,hol,hbl,hz,szM,H8,Na,H9,Nb,H7,H6,G6.eq_def,H3.eq_def,G9.eq_def,Ho.eq_def,Gr.eq_def,Hs.eq_def,Za,Zb,Zc,Zd,Ze,Zf,Zg,Zn,Zo,Zp,Zq,Zr,Zs,Zt,Zv,Zw,Zx,Zy,Z0,Z2,Z3,Z4,Z5,Z7,Z8,Z9,Qa,Qb,Qc,Qd,Qe,Qf,Qi,Qj,Qk,Ql,Qm,Qn,Qo,Qq,Qw,Qx,Qz,Q3,Q4,Q5,Q6,Q7,Q8,Q9,Ja,Jb,Jc,Jd,Je,Jf,Jg,Jn,Jr,Js,Jt,Ju,Jv,Jw,Jz,J0,J1,J2,J3,J4,J5,J6,J7,J8,J9,Xa,Xb,Xc,Xd,Xe,Xf,Xg,Xh,Xi,Xj,Xk,Xl,Xm,Xn,Xo,Xp,Xq,Xr,Xs,Xt,Xu,Xv,Xw,Xx,Xy,Xz,X0,X1,X2,X3,X4,X5,X6,X7,X8,X9,Wa,Wb,Wc,Wf,Wg,Wh,Wi,Wj,Wl,Wm,Wn,Wo,Wp,Wq,Wr,Ws,Wt,Wu,Wv,Ww,Wx,Wy,Wz,W0,W3,W4,W5,W6,W7,W8,W9,Ya,Yb,Yc,Yf,Yg,Yh,Yi,Yj,Yk,Yl,Ym,Yn,Yo,Yp,Yq,Yr,Ys,Yt,Yu,Yv,Yw,Yx,Yy,Yz,Y0,Y1,Y2,Y3,Y4,Y5,Y6,Y7,Y8,Y9,Va,Vb,Vc,Vd,Ve,Vf,Vg,Vh,Vi,Vj,Vk,Vl,Vm,Vn,Vo,Vp,Vq,Vr,Vs,Vt,Vu,Vv,Vw,Vx,Vy,Vz,V0,V1,V2,V3,V4,V5,V6,V7,V8,V9,Ua,Ub,Uc,Ud,Ue,Uf,Ug,Uh,Ui,Uj,Uk,Ul,Um,Un,Uo,Up,Uq,Ur,Us,Ut,Uu,Uv,Uw,Ux,Uy,Uz,U0,U1,U2,U3,U4,U5,U6,U7,U8,U9,Ka,Kb,Kc,Kd,Ke,Kf,Kg,Kh,Ki,Kj,Kk,Kl,Km,Kn,Ko,Kq,Kr,Ks,Kt,Ku,K1,K2,K3,K4,K5,K6,K7,Ga,Gx,Hd,Hb,Gq,Hi,Gy,Gp,Nl]
                 tactic =>
                  try simp only [Gl] at *
                  try simp only [nc2] at *
                  try simp (maxSteps := 4000000) only [hrb,hlb,hol,hbl,hz,szM,G4]
                  repeat' (first | with_reducible assumption | with_reducible refine And.intro ?_ ?_ | intro _ | omega | (rw [Gb]; omega))
                  all_goals first
                    | (with_reducible refine G7 ?_; kernel_rfl)
                    | omega
                    | exact ⟨(r + 1, gz), by simp only [ho2, hoS]; ((try simp only [Gd, Gj, Gi, Gs, upd, Gt, G5, Hn, Nat.reduceDiv, Nat.reduceMod, Nat.reduceMul, Nat.reduceAdd, Nat.reduceEqDiff, List.set_cons_zero, List.set_cons_succ, if_true, if_false, reduceIte]); (first | refine Wk.of_fl ?_ | skip); simp only [Wk, wkK, Ht, wkT, wk1, AV.kept, keptAll, wkO, lk, Ge, and_true, true_and, and_self, Nat.reduceEqDiff, Nat.reduceLeDiff, if_true, if_false, reduceIte, reduceCtorEq, Option.isSome, false_implies]; try simp [Wk, wkK, wkT, wk1, AV.kept, keptAll, wkO, lk, Ge, List.map_append, List.length_append]); exact hol.symm, by simp only; omega, by simp only; omega, by simp only; omega⟩
                    | skip))
          · have hrl : r = l.length := by omega
            rw [hrl] at hrb ⊢
            (sym =>
             simp [hrb,hR,M3.eq_def,szM,H8,Na,H9,Nb,H7,H6,G6.eq_def,H3.eq_def,G9.eq_def,Ho.eq_def,Gr.eq_def,Hs.eq_def,Za,Zb,Zc,Zd,Ze,Zf,Zg,Zn,Zo,Zp,Zq,Zr,Zs,Zt,Zv,Zw,Zx,Zy,Z0,Z2,Z3,Z4,Z5,Z7,Z8,Z9,Qa,Qb,Qc,Qd,Qe,Qf,Qi,Qj,Qk,Ql,Qm,Qn,Qo,Qq,Qw,Qx,Qz,Q3,Q4,Q5,Q6,Q7,Q8,Q9,Ja,Jb,Jc,Jd,Je,Jf,Jg,Jn,Jr,Js,Jt,Ju,Jv,Jw,Jz,J0,J1,J2,J3,J4,J5,J6,J7,J8,J9,Xa,Xb,Xc,Xd,Xe,Xf,Xg,Xh,Xi,Xj,Xk,Xl,Xm,Xn,Xo,Xp,Xq,Xr,Xs,Xt,Xu,Xv,Xw,Xx,Xy,Xz,X0,X1,X2,X3,X4,X5,X6,X7,X8,X9,Wa,Wb,Wc,Wf,Wg,Wh,Wi,Wj,Wl,Wm,Wn,Wo,Wp,Wq,Wr,Ws,Wt,Wu,Wv,Ww,Wx,Wy,Wz,W0,W3,W4,W5,W6,W7,W8,W9,Ya,Yb,Yc,Yf,Yg,Yh,Yi,Yj,Yk,Yl,Ym,Yn,Yo,Yp,Yq,Yr,Ys,Yt,Yu,Yv,Yw,Yx,Yy,Yz,Y0,Y1,Y2,Y3,Y4,Y5,Y6,Y7,Y8,Y9,Va,Vb,Vc,Vd,Ve,Vf,Vg,Vh,Vi,Vj,Vk,Vl,Vm,Vn,Vo,Vp,Vq,Vr,Vs,Vt,Vu,Vv,Vw,Vx,Vy,Vz,V0,V1,V2,V3,V4,V5,V6,V7,V8,V9,Ua,Ub,Uc,Ud,Ue,Uf,Ug,Uh,Ui,Uj,Uk,Ul,Um,Un,Uo,Up,Uq,Ur,Us,Ut,Uu,Uv,Uw,Ux,Uy,Uz,U0,U1,U2,U3,U4,U5,U6,U7,U8,U9,Ka,Kb,Kc,Kd,Ke,Kf,Kg,Kh,Ki,Kj,Kk,Kl,Km,Kn,Ko,Kq,Kr,Ks,Kt,Ku,K1,K2,K3,K4,K5,K6,K7,Ga,Gx,Hd,Hb,Gq,Hi,Gy,Gp,Nl]
             tactic =>
              try simp only [Gl] at *
              try simp only [nc2] at *
              try simp (maxSteps := 4000000) only [hrb,hR,M3.eq_def,szM,G4]
              repeat' (first | with_reducible assumption | with_reducible refine And.intro ?_ ?_ | intro _ | omega | (rw [Gb]; omega))
              all_goals first
                | trivial
                | rfl
                | skip)))))
end Go.Am.Graph
set_option linter.unusedSimpArgs false
set_option linter.unusedVariables false
set_option maxHeartbeats 1000000
namespace Go.Am.Graph
open Go.Proofs
open Enc (enc dec)
section
variable {α β : Type} [BEq α]
def N6 (x : α) : List α → Bool
  | [] => false
  | y :: l => (x == y) || N6 x l
def Lv (x : α) (z : β) : List α → List β → β
  | y :: ks, v :: vs => cond (x == y) v (Lv x z ks vs)
  | _, _ => z
def Li (x : α) (ks : List α) : List α := cond (N6 x ks) ks (ks ++ [x])
def T6 (x : α) (v : β) : List α → List β → List β
  | y :: ks, u :: vs => cond (x == y) (v :: vs) (u :: T6 x v ks vs)
  | _, _ => [v]
variable [LawfulBEq α]
theorem Lj {x : α} : ∀ {l : List α}, N6 x l = true ↔ x ∈ l
  | [] => by simp [N6]
  | y :: l => by simp only [N6, Bool.or_eq_true, beq_iff_eq, Lj (l := l), List.mem_cons]
theorem gHas_no {x : α} {l : List α} : N6 x l = false ↔ x ∉ l := by
  rw [← Lj, Bool.eq_false_iff]
end
theorem eqb_S {x y : List UInt8} : D.eqb (.str x) (.str y) = (x == y) := rfl
theorem eqb_I {x y : Int} : D.eqb (.int .i64 x) (.int .i64 y) = (x == y) := by
  show ((IntKind.i64 == IntKind.i64) && (x == y)) = _
  rfl
theorem H5 : ∀ {ks : List (List UInt8)}, Bb .str (ks.map enc) = True
  | [] => rfl
  | k :: ks => by
    show (True ∧ Bb .str (ks.map enc)) = True
    rw [H5, true_and]
theorem Bq : ∀ {ks : List Int}, Bb (.int .i64) (ks.map enc) = True
  | [] => rfl
  | k :: ks => by
    show ((IntKind.i64 = IntKind.i64) ∧ Bb (.int .i64) (ks.map enc)) = True
    rw [Bq]
    simp
theorem Sp {x : List UInt8} : ∀ {ks : List (List UInt8)}, E1 (.str x) (ks.map enc) = N6 x ks
  | [] => rfl
  | k :: ks => by
    show (D.eqb (.str x) (.str k) || E1 (.str x) (ks.map enc)) = _
    rw [Sp, eqb_S, N6]
theorem mHas_I {x : Int} : ∀ {ks : List Int}, E1 (.int .i64 x) (ks.map enc) = N6 x ks
  | [] => rfl
  | k :: ks => by
    show (D.eqb (.int .i64 x) (.int .i64 k) || E1 (.int .i64 x) (ks.map enc)) = _
    rw [mHas_I, eqb_I, N6]
theorem Mn {x : List UInt8} {z : Int} : ∀ {ks : List (List UInt8)} {vs : List Int}, mGet (.str x) (.int .i64 z) (ks.map enc) (vs.map enc) = .int .i64 (Lv x z ks vs)
  | [], vs => by cases vs <;> rfl
  | k :: ks, [] => rfl
  | k :: ks, v :: vs => by
    show cond (D.eqb (.str x) (.str k)) (D.int .i64 v) (mGet (.str x) (.int .i64 z) (ks.map enc) (vs.map enc)) = _
    rw [Mn, eqb_S, Lv]
    cases x == k <;> rfl
theorem mGet_SB {x : List UInt8} {z : Bool} : ∀ {ks : List (List UInt8)} {vs : List Bool}, mGet (.str x) (.bool z) (ks.map enc) (vs.map enc) = .bool (Lv x z ks vs)
  | [], vs => by cases vs <;> rfl
  | k :: ks, [] => rfl
  | k :: ks, v :: vs => by
    show cond (D.eqb (.str x) (.str k)) (D.bool v) (mGet (.str x) (.bool z) (ks.map enc) (vs.map enc)) = _
    rw [mGet_SB, eqb_S, Lv]
    cases x == k <;> rfl
theorem Dt {x : Int} {z : Bool} : ∀ {ks : List Int} {vs : List Bool}, mGet (.int .i64 x) (.bool z) (ks.map enc) (vs.map enc) = .bool (Lv x z ks vs)
  | [], vs => by cases vs <;> rfl
  | k :: ks, [] => rfl
  | k :: ks, v :: vs => by
    show cond (D.eqb (.int .i64 x) (.int .i64 k)) (D.bool v) (mGet (.int .i64 x) (.bool z) (ks.map enc) (vs.map enc)) = _
    rw [Dt, eqb_I, Lv]
    cases x == k <;> rfl
theorem mSetK_S {x : List UInt8} {ks : List (List UInt8)} : Ox (.str x) (ks.map enc) = (Li x ks).map enc := by
  unfold Ox Li
  rw [Sp]
  cases N6 x ks
  · simp only [cond_false, List.map_append, List.map_cons, List.map_nil]; rfl
  · rfl
theorem mSetK_I {x : Int} {ks : List Int} : Ox (.int .i64 x) (ks.map enc) = (Li x ks).map enc := by
  unfold Ox Li
  rw [mHas_I]
  cases N6 x ks
  · simp only [cond_false, List.map_append, List.map_cons, List.map_nil]; rfl
  · rfl
theorem mSetV_SI {x : List UInt8} {v : Int} : ∀ {ks : List (List UInt8)} {vs : List Int}, Dn (.str x) (.int .i64 v) (ks.map enc) (vs.map enc) = (T6 x v ks vs).map enc
  | [], vs => by cases vs <;> rfl
  | k :: ks, [] => rfl
  | k :: ks, u :: vs => by
    show cond (D.eqb (.str x) (.str k)) (D.int .i64 v :: vs.map enc) (D.int .i64 u :: Dn (.str x) (.int .i64 v) (ks.map enc) (vs.map enc)) = _
    rw [mSetV_SI, eqb_S, T6]
    cases x == k <;> rfl
theorem mSetV_SB {x : List UInt8} {v : Bool} : ∀ {ks : List (List UInt8)} {vs : List Bool}, Dn (.str x) (.bool v) (ks.map enc) (vs.map enc) = (T6 x v ks vs).map enc
  | [], vs => by cases vs <;> rfl
  | k :: ks, [] => rfl
  | k :: ks, u :: vs => by
    show cond (D.eqb (.str x) (.str k)) (D.bool v :: vs.map enc) (D.bool u :: Dn (.str x) (.bool v) (ks.map enc) (vs.map enc)) = _
    rw [mSetV_SB, eqb_S, T6]
    cases x == k <;> rfl
theorem mSetV_IB {x : Int} {v : Bool} : ∀ {ks : List Int} {vs : List Bool}, Dn (.int .i64 x) (.bool v) (ks.map enc) (vs.map enc) = (T6 x v ks vs).map enc
  | [], vs => by cases vs <;> rfl
  | k :: ks, [] => rfl
  | k :: ks, u :: vs => by
    show cond (D.eqb (.int .i64 x) (.int .i64 k)) (D.bool v :: vs.map enc) (D.bool u :: Dn (.int .i64 x) (.bool v) (ks.map enc) (vs.map enc)) = _
    rw [mSetV_IB, eqb_I, T6]
    cases x == k <;> rfl
structure MS where
  ks : List (List UInt8)
  vs : List Int
instance encMS : Enc MS := ⟨fun a => .map (a.ks.map enc) (a.vs.map enc), fun x => match x with
  | .map a b => ⟨a.map dec, b.map dec⟩
  | _ => ⟨[], []⟩, fun a => by
    obtain ⟨k, v⟩ := a
    simp only [List.map_map]
    have h1 : (dec ∘ enc : List UInt8 → List UInt8) = id := funext fun x => Enc.dec_enc x
    have h2 : (dec ∘ enc : Int → Int) = id := funext fun x => Enc.dec_enc x
    rw [h1, h2, List.map_id, List.map_id]⟩
theorem Br {a : MS} : (enc a : D) = .map (a.ks.map enc) (a.vs.map enc) := rfl
theorem R9 {ks : List (List UInt8)} {vs : List Int} : isE MS (.map (ks.map enc) (vs.map enc)) = True := eq_true (Bo (⟨ks, vs⟩ : MS))
theorem Ak {ks : List (List UInt8)} {vs : List Int} : (dec (.map (ks.map enc) (vs.map enc)) : MS) = ⟨ks, vs⟩ := Enc.dec_enc (⟨ks, vs⟩ : MS)
def plK (l : List Mod) : Nat → List (List UInt8)
  | 0 => []
  | k + 1 => cond (N6 (nm l k) (plK l k)) (plK l k) (Li (nm l k) (plK l k))
def plV (l : List Mod) : Nat → List Int
  | 0 => []
  | k + 1 => cond (N6 (nm l k) (plK l k)) (plV l k) (T6 (nm l k) (k : Int) (plK l k) (plV l k))
def Gw (l : List Mod) : MS := ⟨plK l l.length, plV l l.length⟩
def H0 : Con := Oo (fun (l : Sl Mod) => Lo l.l.length) (fun l => Gw l.l)
noncomputable def Tj : Ctx := ⟨tab, lkC [], 60, lkB [], [], false⟩
theorem D5 : Tj.τ = tab := rfl
theorem D7 : Tj.Γ = lkC [] := rfl
theorem D6 : Tj.dp = 60 := rfl
theorem D8 : Tj.Δ = lkB [] := rfl
theorem D4 : Tj.cuts = [] := rfl
theorem D3 : Tj.wr = false := rfl
set_option maxRecDepth 100000 in
theorem good_places : Ck Try.prog (19, H0) := by
  refine ⟨Hh Try.func19 (by kernel_rfl) rfl, ?_⟩
  have K : Mj Try.prog Tj := Nj P8 Ny (by simp) (by simp)
  obtain ⟨c, hc⟩ : ∃ c, Try.f19.body = some c := ⟨_, rfl⟩
  refine Mi K Try.func19 hc [.tmp 2] rfl 31 rfl (fun cvs hpre => ?_)
  change H0.pre cvs at hpre
  unfold H0 at hpre
  obtain ⟨⟨l⟩, rfl, hl⟩ := St hpre
  simp only at hl
  clear hpre
  simp only [Try.f19, Option.some.injEq] at hc
  subst hc
  (sym =>
   simp [szM,D5,D7,D6,D8,D4,D3,H0.eq_def,Za,Zb,Zc,Ze,Zf,Zg,Zn,Zo,Zp,Zq,Zr,Zs,Zu,Zv,Zw,Zx,Zy,Z5,Z6,Z9,Qa,Qb,Qf,Qi,Qj,Qk,Ql,Qm,Qn,Qo,Qq,Qw,Qx,Qz,Q3,Q5,Ja,Jc,Jd,Je,Jf,Jg,Jn,Js,Jt,Ju,Jv,Jw,Jz,J0,Xd,Xe,Xf,Xg,Xh,Xi,Xj,Xk,Xl,Xm,Xn,Xo,Xp,Xs,Xt,Xu,Xv,Xw,Xx,Xy,Xz,X0,X1,X2,X3,X4,X5,X6,X7,X8,X9,Wa,Wb,Wc,Wf,Wg,Wh,Wi,Wj,Wl,Wm,Wn,Wo,Wp,Wq,Wr,Ws,Wt,Wu,Wv,Ww,Wx,Wy,Wz,W0,W3,W4,W5,W6,W7,W8,W9,Ya,Yb,Yc,Yi,Yj,Yk,Yl,Ym,Yn,Yo,Yp,Yq,Yr,Ys,Yt,Yu,Yv,Yw,Yx,Yy,Yz,Y0,Y1,Y2,Y3,Y4,Y5,Y6,Y7,Y8,Y9,Va,Vb,Vc,Vd,Ve,Vf,Vg,Vh,Vi,Vj,Vk,Vl,Vm,Vn,Vo,Vp,Vq,Vr,Vs,Vt,Vu,Vv,Vw,Vx,Vy,Vz,V0,V1,V2,V3,V4,V5,V6,V7,V8,V9,Ua,Ub,Uc,Ud,Ue,Uf,Ug,Uh,Ui,Uj,Uk,Ul,Um,Un,Uo,Up,Us,Ut,Uu,Uv,Uw,Ux,Uy,Uz,U0,U1,U2,U3,U4,U5,U6,U7,U8,U9,Ka,Kb,Kc,Kd,Ke,Kf,Kg,Kh,Ki,Kj,Kk,Kl,Km,Kn,Ko,Kq,Kr,Ks,Kt,Ku,Kv,Kw,Kx,Ky,Kz,K0,K1,K2,K3,K4,K5,K6,K7,Ga,Gx,Hd,Hb,Gq,Gp,Pg]
   tactic =>
    try simp only [Gl] at *
    try simp only [nc2] at *
    try simp (maxSteps := 4000000) only [szM,G4]
    repeat' (first | with_reducible assumption | with_reducible refine And.intro ?_ ?_ | intro _ | omega | (rw [Gb]; omega))
    refine Ha [4, 5, 6, 7, 12, 13, 14, 15, 16, 17, 18, 19, 20, 21, 22, 23, 24, 25, 26, 27, 28, 29] (fun k : Nat => [(11, .d (.int .i64 k))]) (fun k : Nat => [(8, .mp ((plK l k).map enc) ((plV l k).map enc) false)]) (fun k : Nat => k ≤ l.length) (fun k : Nat => l.length - k) 0 ?_ ?_ ?_
    · omega
    · ((try simp only [Gd, Gj, Gi, Gs, upd, Gt, G5, Hn, Nat.reduceDiv, Nat.reduceMod, Nat.reduceMul, Nat.reduceAdd, Nat.reduceEqDiff, List.set_cons_zero, List.set_cons_succ, if_true, if_false, reduceIte]); (first | refine Wk.of_fl ?_ | skip); simp only [Wk, wkK, Ht, wkT, wk1, AV.kept, keptAll, wkO, lk, Ge, and_true, true_and, and_self, Nat.reduceEqDiff, Nat.reduceLeDiff, if_true, if_false, reduceIte, reduceCtorEq, Option.isSome, false_implies]; try simp [Wk, wkK, wkT, wk1, AV.kept, keptAll, wkO, lk, Ge, plK, plV])
    rintro k hk
    have hSk : plK l (k + 1) = cond (N6 (nm l k) (plK l k)) (plK l k) (Li (nm l k) (plK l k)) := rfl
    have hSv : plV l (k + 1) = cond (N6 (nm l k) (plK l k)) (plV l k) (T6 (nm l k) (k : Int) (plK l k) (plV l k)) := rfl
    rcases Hg k l.length with ⟨hlt, hlb⟩ | ⟨hlt, hlb⟩
    · have q1 := Hp m0 hlt
      unfold nm at hSk hSv
      obtain ⟨x, hx⟩ : ∃ x, l.getD k m0 = x := ⟨_, rfl⟩
      obtain ⟨ks, hks⟩ : ∃ x, plK l k = x := ⟨_, rfl⟩
      obtain ⟨vs, hvs⟩ : ∃ x, plV l k = x := ⟨_, rfl⟩
      rw [hx] at q1
      rw [hx, hks] at hSk hSv
      rw [hvs] at hSv
      rw [hks, hvs]
      cases hh : N6 x.name ks with
      | true =>
        rw [hh, cond_true] at hSk hSv
        (sym =>
         simp [hlb,q1,hh,H5,Sp,Mn,Gg,szM,D5,D7,D6,D8,D4,D3,H0.eq_def,Za,Zb,Zc,Ze,Zf,Zg,Zn,Zo,Zp,Zq,Zr,Zs,Zu,Zv,Zw,Zx,Zy,Z5,Z6,Z9,Qa,Qb,Qf,Qi,Qj,Qk,Ql,Qm,Qn,Qo,Qq,Qw,Qx,Qz,Q3,Q5,Ja,Jc,Jd,Je,Jf,Jg,Jn,Js,Jt,Ju,Jv,Jw,Jz,J0,Xd,Xe,Xf,Xg,Xh,Xi,Xj,Xk,Xl,Xm,Xn,Xo,Xp,Xs,Xt,Xu,Xv,Xw,Xx,Xy,Xz,X0,X1,X2,X3,X4,X5,X6,X7,X8,X9,Wa,Wb,Wc,Wf,Wg,Wh,Wi,Wj,Wl,Wm,Wn,Wo,Wp,Wq,Wr,Ws,Wt,Wu,Wv,Ww,Wx,Wy,Wz,W0,W3,W4,W5,W6,W7,W8,W9,Ya,Yb,Yc,Yi,Yj,Yk,Yl,Ym,Yn,Yo,Yp,Yq,Yr,Ys,Yt,Yu,Yv,Yw,Yx,Yy,Yz,Y0,Y1,Y2,Y3,Y4,Y5,Y6,Y7,Y8,Y9,Va,Vb,Vc,Vd,Ve,Vf,Vg,Vh,Vi,Vj,Vk,Vl,Vm,Vn,Vo,Vp,Vq,Vr,Vs,Vt,Vu,Vv,Vw,Vx,Vy,Vz,V0,V1,V2,V3,V4,V5,V6,V7,V8,V9,Ua,Ub,Uc,Ud,Ue,Uf,Ug,Uh,Ui,Uj,Uk,Ul,Um,Un,Uo,Up,Us,Ut,Uu,Uv,Uw,Ux,Uy,Uz,U0,U1,U2,U3,U4,U5,U6,U7,U8,U9,Ka,Kb,Kc,Kd,Ke,Kf,Kg,Kh,Ki,Kj,Kk,Kl,Km,Kn,Ko,Kq,Kr,Ks,Kt,Ku,Kv,Kw,Kx,Ky,Kz,K0,K1,K2,K3,K4,K5,K6,K7,Ga,Gx,Hd,Hb,Gq,Gp,Pg]
         tactic =>
          try simp only [Gl] at *
          try simp only [nc2] at *
          try simp (maxSteps := 4000000) only [hlb,q1,hh,H5,Sp,Mn,Gg,szM,G4]
          repeat' (first | with_reducible assumption | with_reducible refine And.intro ?_ ?_ | intro _ | omega | (rw [Gb]; omega))
          all_goals first
            | (with_reducible refine G7 ?_; kernel_rfl)
            | omega
            | exact ⟨k + 1, by rw [hSk, hSv]; ((try simp only [Gd, Gj, Gi, Gs, upd, Gt, G5, Hn, Nat.reduceDiv, Nat.reduceMod, Nat.reduceMul, Nat.reduceAdd, Nat.reduceEqDiff, List.set_cons_zero, List.set_cons_succ, if_true, if_false, reduceIte]); (first | refine Wk.of_fl ?_ | skip); simp only [Wk, wkK, Ht, wkT, wk1, AV.kept, keptAll, wkO, lk, Ge, and_true, true_and, and_self, Nat.reduceEqDiff, Nat.reduceLeDiff, if_true, if_false, reduceIte, reduceCtorEq, Option.isSome, false_implies]; try simp [Wk, wkK, wkT, wk1, AV.kept, keptAll, wkO, lk, Ge]), by omega, by omega⟩
            | skip)
      | false =>
        rw [hh, cond_false] at hSk hSv
        (sym =>
         simp [hlb,q1,hh,H5,Sp,Mn,mSetK_S,mSetV_SI,Gg,szM,D5,D7,D6,D8,D4,D3,H0.eq_def,Za,Zb,Zc,Ze,Zf,Zg,Zn,Zo,Zp,Zq,Zr,Zs,Zu,Zv,Zw,Zx,Zy,Z5,Z6,Z9,Qa,Qb,Qf,Qi,Qj,Qk,Ql,Qm,Qn,Qo,Qq,Qw,Qx,Qz,Q3,Q5,Ja,Jc,Jd,Je,Jf,Jg,Jn,Js,Jt,Ju,Jv,Jw,Jz,J0,Xd,Xe,Xf,Xg,Xh,Xi,Xj,Xk,Xl,Xm,Xn,Xo,Xp,Xs,Xt,Xu,Xv,Xw,Xx,Xy,Xz,X0,X1,X2,X3,X4,X5,X6,X7,X8,X9,Wa,Wb,Wc,Wf,Wg,Wh,Wi,Wj,Wl,Wm,Wn,Wo,Wp,Wq,Wr,Ws,Wt,Wu,Wv,Ww,Wx,Wy,Wz,W0,W3,W4,W5,W6,W7,W8,W9,Ya,Yb,Yc,Yi,Yj,Yk,Yl,Ym,Yn,Yo,Yp,Yq,Yr,Ys,Yt,Yu,Yv,Yw,Yx,Yy,Yz,Y0,Y1,Y2,Y3,Y4,Y5,Y6,Y7,Y8,Y9,Va,Vb,Vc,Vd,Ve,Vf,Vg,Vh,Vi,Vj,Vk,Vl,Vm,Vn,Vo,Vp,Vq,Vr,Vs,Vt,Vu,Vv,Vw,Vx,Vy,Vz,V0,V1,V2,V3,V4,V5,V6,V7,V8,V9,Ua,Ub,Uc,Ud,Ue,Uf,Ug,Uh,Ui,Uj,Uk,Ul,Um,Un,Uo,Up,Us,Ut,Uu,Uv,Uw,Ux,Uy,Uz,U0,U1,U2,U3,U4,U5,U6,U7,U8,U9,Ka,Kb,Kc,Kd,Ke,Kf,Kg,Kh,Ki,Kj,Kk,Kl,Km,Kn,Ko,Kq,Kr,Ks,Kt,Ku,Kv,Kw,Kx,Ky,Kz,K0,K1,K2,K3,K4,K5,K6,K7,Ga,Gx,Hd,Hb,Gq,Gp,Pg]
         tactic =>
          try simp only [Gl] at *
          try simp only [nc2] at *
          try simp (maxSteps := 4000000) only [hlb,q1,hh,H5,Sp,Mn,mSetK_S,mSetV_SI,Gg,szM,G4]
          repeat' (first | with_reducible assumption | with_reducible refine And.intro ?_ ?_ | intro _ | omega | (rw [Gb]; omega))
          all_goals first
            | (with_reducible refine G7 ?_; kernel_rfl)
            | omega
            | exact ⟨k + 1, by rw [hSk, hSv]; ((try simp only [Gd, Gj, Gi, Gs, upd, Gt, G5, Hn, Nat.reduceDiv, Nat.reduceMod, Nat.reduceMul, Nat.reduceAdd, Nat.reduceEqDiff, List.set_cons_zero, List.set_cons_succ, if_true, if_false, reduceIte]); (first | refine Wk.of_fl ?_ | skip); simp only [Wk, wkK, Ht, wkT, wk1, AV.kept, keptAll, wkO, lk, Ge, and_true, true_and, and_self, Nat.reduceEqDiff, Nat.reduceLeDiff, if_true, if_false, reduceIte, reduceCtorEq, Option.isSome, false_implies]; try simp [Wk, wkK, wkT, wk1, AV.kept, keptAll, wkO, lk, Ge]), by omega, by omega⟩
            | skip)
    · have hkl : k = l.length := by omega
      have hre : Gw l = ⟨plK l l.length, plV l l.length⟩ := rfl
      rw [hkl]
      obtain ⟨ks, hks⟩ : ∃ x, plK l l.length = x := ⟨_, rfl⟩
      obtain ⟨vs, hvs⟩ : ∃ x, plV l l.length = x := ⟨_, rfl⟩
      rw [hks, hvs] at hre
      rw [hkl] at hlb
      rw [hks, hvs]
      (sym =>
       simp [hlb,hre,Br,szM,D5,D7,D6,D8,D4,D3,H0.eq_def,Za,Zb,Zc,Ze,Zf,Zg,Zn,Zo,Zp,Zq,Zr,Zs,Zu,Zv,Zw,Zx,Zy,Z5,Z6,Z9,Qa,Qb,Qf,Qi,Qj,Qk,Ql,Qm,Qn,Qo,Qq,Qw,Qx,Qz,Q3,Q5,Ja,Jc,Jd,Je,Jf,Jg,Jn,Js,Jt,Ju,Jv,Jw,Jz,J0,Xd,Xe,Xf,Xg,Xh,Xi,Xj,Xk,Xl,Xm,Xn,Xo,Xp,Xs,Xt,Xu,Xv,Xw,Xx,Xy,Xz,X0,X1,X2,X3,X4,X5,X6,X7,X8,X9,Wa,Wb,Wc,Wf,Wg,Wh,Wi,Wj,Wl,Wm,Wn,Wo,Wp,Wq,Wr,Ws,Wt,Wu,Wv,Ww,Wx,Wy,Wz,W0,W3,W4,W5,W6,W7,W8,W9,Ya,Yb,Yc,Yi,Yj,Yk,Yl,Ym,Yn,Yo,Yp,Yq,Yr,Ys,Yt,Yu,Yv,Yw,Yx,Yy,Yz,Y0,Y1,Y2,Y3,Y4,Y5,Y6,Y7,Y8,Y9,Va,Vb,Vc,Vd,Ve,Vf,Vg,Vh,Vi,Vj,Vk,Vl,Vm,Vn,Vo,Vp,Vq,Vr,Vs,Vt,Vu,Vv,Vw,Vx,Vy,Vz,V0,V1,V2,V3,V4,V5,V6,V7,V8,V9,Ua,Ub,Uc,Ud,Ue,Uf,Ug,Uh,Ui,Uj,Uk,Ul,Um,Un,Uo,Up,Us,Ut,Uu,Uv,Uw,Ux,Uy,Uz,U0,U1,U2,U3,U4,U5,U6,U7,U8,U9,Ka,Kb,Kc,Kd,Ke,Kf,Kg,Kh,Ki,Kj,Kk,Kl,Km,Kn,Ko,Kq,Kr,Ks,Kt,Ku,Kv,Kw,Kx,Ky,Kz,K0,K1,K2,K3,K4,K5,K6,K7,Ga,Gx,Hd,Hb,Gq,Gp,Pg]
       tactic =>
        try simp only [Gl] at *
        try simp only [nc2] at *
        try simp (maxSteps := 4000000) only [hlb,hre,Br,szM,G4]
        repeat' (first | with_reducible assumption | with_reducible refine And.intro ?_ ?_ | intro _ | omega | (rw [Gb]; omega))
        all_goals first
          | trivial
          | rfl
          | skip))
end Go.Am.Graph
set_option linter.unusedSimpArgs false
set_option linter.unusedVariables false
set_option maxHeartbeats 1000000
namespace Go.Am.Graph
open Go.Proofs
open Enc (enc dec)
def dup2 (l : List Mod) (m : MS) (k : Nat) : Bool := Lv (nm l k) 0 m.ks m.vs != (k : Int)
def Oy (l : List Mod) (m : MS) (k : Nat) : Bool := (imp l k).any fun s => !N6 s m.ks
def Rw (l : List Mod) (m : MS) : Int × Int := match (List.range l.length).find? (dup2 l m) with
  | some i => (i, 7)
  | none => match (List.range l.length).find? (Oy l m) with
    | some i => (i, 6)
    | none => (0, 0)
def Nk : Con := con2t (fun (l : Sl Mod) (_ : MS) => Ph l.l = true) (fun l m => Rw l.l m)
noncomputable def Ct : Ctx := ⟨tab, lkC [], 60, lkB [], [], false⟩
theorem Be : Ct.τ = tab := rfl
theorem Bg : Ct.Γ = lkC [] := rfl
theorem Bf : Ct.dp = 60 := rfl
theorem Bh : Ct.Δ = lkB [] := rfl
theorem Bd : Ct.cuts = [] := rfl
theorem Bc : Ct.wr = false := rfl
set_option maxRecDepth 100000 in
theorem good_wrong : Ck Try.prog (20, Nk) := by
  refine ⟨Hh Try.func20 (by kernel_rfl) rfl, ?_⟩
  have K : Mj Try.prog Ct := Nj P8 Ny (by simp) (by simp)
  obtain ⟨c, hc⟩ : ∃ c, Try.f20.body = some c := ⟨_, rfl⟩
  refine Mi K Try.func20 hc [.tmp 4, .tmp 5] rfl 54 rfl (fun cvs hpre => ?_)
  change Nk.pre cvs at hpre
  unfold Nk at hpre
  obtain ⟨⟨l⟩, ⟨ks, vs⟩, rfl, hf⟩ := con2t_pre hpre
  simp only at hf
  clear hpre
  have hl20 := Px hf
  obtain ⟨R1, R2, hR⟩ : ∃ a b, Rw l ⟨ks, vs⟩ = (a, b) := ⟨_, _, rfl⟩
  have hR2 := hR
  unfold Rw at hR2
  simp only [Try.f20, Option.some.injEq] at hc
  subst hc
  refine Nu 3 (of_decide_eq_true (by kernel_rfl)) ?_
  (sym =>
   simp [Br,szM,Be,Bg,Bf,Bh,Bd,Bc,Nk.eq_def,Za,Zb,Zc,Ze,Zf,Zg,Zn,Zo,Zp,Zq,Zr,Zs,Zu,Zv,Zw,Zx,Zy,Z5,Z6,Z9,Qa,Qb,Qf,Qi,Qj,Qk,Ql,Qm,Qn,Qo,Qq,Qw,Qx,Qz,Q3,Q5,Ja,Jc,Jd,Je,Jf,Jg,Jn,Jr,Js,Jt,Ju,Jv,Jw,Jz,J0,J1,J2,J3,J4,J5,J6,J7,J8,J9,Xa,Xd,Xe,Xf,Xg,Xh,Xi,Xj,Xk,Xl,Xm,Xn,Xo,Xp,Xq,Xr,Xs,Xt,Xu,Xv,Xw,Xx,Xy,Xz,X0,X1,X2,X3,X4,X5,X6,X7,X8,X9,Wa,Wb,Wc,Wf,Wg,Wh,Wi,Wj,Wl,Wm,Wn,Wo,Wp,Wq,Wr,Ws,Wt,Wu,Wv,Ww,Wx,Wy,Wz,W0,W3,W4,W5,W6,W7,W8,W9,Ya,Yb,Yc,Yf,Yg,Yh,Yi,Yj,Yk,Yl,Ym,Yn,Yo,Yp,Yq,Yr,Ys,Yt,Yu,Yv,Yw,Yx,Yy,Yz,Y0,Y1,Y2,Y3,Y4,Y5,Y6,Y7,Y8,Y9,Va,Vb,Vc,Vd,Ve,Vf,Vg,Vh,Vi,Vj,Vk,Vl,Vm,Vn,Vo,Vp,Vq,Vr,Vs,Vt,Vu,Vv,Vw,Vx,Vy,Vz,V0,V1,V2,V3,V4,V5,V6,V7,V8,V9,Ua,Ub,Uc,Ud,Ue,Uf,Ug,Uh,Ui,Uj,Uk,Ul,Um,Un,Uo,Up,Us,Ut,Uu,Uv,Uw,Ux,Uy,Uz,U0,U1,U2,U3,U4,U5,U6,U7,U8,U9,Ka,Kb,Kc,Kd,Ke,Kf,Kg,Kh,Ki,Kj,Kk,Kl,Km,Kn,Ko,Kq,Kr,Ks,Kt,Ku,Kv,Ky,Kz,K1,K2,K3,K4,K5,K6,K7,Ga,Gx,Hd,Hb,Gq,Gy,Gp,Pg]
   tactic =>
    try simp only [Gl] at *
    try simp only [nc2] at *
    try simp (maxSteps := 4000000) only [Br,szM,G4]
    repeat' (first | with_reducible assumption | with_reducible refine And.intro ?_ ?_ | intro _ | omega | (rw [Gb]; omega))
    refine Ha [4, 5, 6, 7, 17, 18, 19, 20, 21, 22, 23, 24, 25, 26, 27, 28] (fun k : Nat => [(16, .d (.int .i64 k))]) (fun k : Nat => []) (fun k : Nat => k ≤ l.length ∧ ∀ j, j < k → dup2 l ⟨ks, vs⟩ j = false) (fun k : Nat => l.length - k) 0 ?_ ?_ ?_
    · simp
    · ((try simp only [Gd, Gj, Gi, Gs, upd, Gt, G5, Hn, Nat.reduceDiv, Nat.reduceMod, Nat.reduceMul, Nat.reduceAdd, Nat.reduceEqDiff, List.set_cons_zero, List.set_cons_succ, if_true, if_false, reduceIte]); (first | refine Wk.of_fl ?_ | skip); simp only [Wk, wkK, Ht, wkT, wk1, AV.kept, keptAll, wkO, lk, Ge, and_true, true_and, and_self, Nat.reduceEqDiff, Nat.reduceLeDiff, if_true, if_false, reduceIte, reduceCtorEq, Option.isSome, false_implies]; try simp [Wk, wkK, wkT, wk1, AV.kept, keptAll, wkO, lk, Ge])
    rintro k ⟨hk, hno⟩
    rcases Hg k l.length with ⟨hlt, hlb⟩ | ⟨hlt, hlb⟩
    · have q1 := Hp m0 hlt
      have hst : dup2 l ⟨ks, vs⟩ k = false → ∀ j, j < k + 1 → dup2 l ⟨ks, vs⟩ j = false := fun h => Ok hno h
      have hit : dup2 l ⟨ks, vs⟩ k = true → R1 = k ∧ R2 = 7 := fun h => by
        rw [first_at hlt hno h] at hR2
        injection hR2 with e1 e2
        exact ⟨e1.symm, e2.symm⟩
      unfold dup2 nm at hst hit
      obtain ⟨x, hx⟩ : ∃ x, l.getD k m0 = x := ⟨_, rfl⟩
      rw [hx] at q1 hst hit
      simp only at hst hit
      cases hb : (Lv x.name 0 ks vs != (k : Int)) with
      | true =>
        obtain ⟨e1, e2⟩ := hit hb
        subst e1 e2
        (sym =>
         simp [hlb,q1,hb,hR,H5,Mn,Br,R9,Ak,Gg,szM,Be,Bg,Bf,Bh,Bd,Bc,Nk.eq_def,Za,Zb,Zc,Ze,Zf,Zg,Zn,Zo,Zp,Zq,Zr,Zs,Zu,Zv,Zw,Zx,Zy,Z5,Z6,Z9,Qa,Qb,Qf,Qi,Qj,Qk,Ql,Qm,Qn,Qo,Qq,Qw,Qx,Qz,Q3,Q5,Ja,Jc,Jd,Je,Jf,Jg,Jn,Jr,Js,Jt,Ju,Jv,Jw,Jz,J0,J1,J2,J3,J4,J5,J6,J7,J8,J9,Xa,Xd,Xe,Xf,Xg,Xh,Xi,Xj,Xk,Xl,Xm,Xn,Xo,Xp,Xq,Xr,Xs,Xt,Xu,Xv,Xw,Xx,Xy,Xz,X0,X1,X2,X3,X4,X5,X6,X7,X8,X9,Wa,Wb,Wc,Wf,Wg,Wh,Wi,Wj,Wl,Wm,Wn,Wo,Wp,Wq,Wr,Ws,Wt,Wu,Wv,Ww,Wx,Wy,Wz,W0,W3,W4,W5,W6,W7,W8,W9,Ya,Yb,Yc,Yf,Yg,Yh,Yi,Yj,Yk,Yl,Ym,Yn,Yo,Yp,Yq,Yr,Ys,Yt,Yu,Yv,Yw,Yx,Yy,Yz,Y0,Y1,Y2,Y3,Y4,Y5,Y6,Y7,Y8,Y9,Va,Vb,Vc,Vd,Ve,Vf,Vg,Vh,Vi,Vj,Vk,Vl,Vm,Vn,Vo,Vp,Vq,Vr,Vs,Vt,Vu,Vv,Vw,Vx,Vy,Vz,V0,V1,V2,V3,V4,V5,V6,V7,V8,V9,Ua,Ub,Uc,Ud,Ue,Uf,Ug,Uh,Ui,Uj,Uk,Ul,Um,Un,Uo,Up,Us,Ut,Uu,Uv,Uw,Ux,Uy,Uz,U0,U1,U2,U3,U4,U5,U6,U7,U8,U9,Ka,Kb,Kc,Kd,Ke,Kf,Kg,Kh,Ki,Kj,Kk,Kl,Km,Kn,Ko,Kq,Kr,Ks,Kt,Ku,Kv,Ky,Kz,K1,K2,K3,K4,K5,K6,K7,Ga,Gx,Hd,Hb,Gq,Gy,Gp,Pg]
         tactic =>
          try simp only [Gl] at *
          try simp only [nc2] at *
          try simp (maxSteps := 4000000) only [hlb,q1,hb,hR,H5,Mn,Br,R9,Ak,Gg,szM,G4]
          repeat' (first | with_reducible assumption | with_reducible refine And.intro ?_ ?_ | intro _ | omega | (rw [Gb]; omega))
          all_goals first
            | (with_reducible refine G7 ?_; kernel_rfl)
            | omega
            | trivial
            | rfl
            | skip)
      | false =>
        have hs := hst hb
        (sym =>
         simp [hlb,q1,hb,H5,Mn,Br,Gg,szM,Be,Bg,Bf,Bh,Bd,Bc,Nk.eq_def,Za,Zb,Zc,Ze,Zf,Zg,Zn,Zo,Zp,Zq,Zr,Zs,Zu,Zv,Zw,Zx,Zy,Z5,Z6,Z9,Qa,Qb,Qf,Qi,Qj,Qk,Ql,Qm,Qn,Qo,Qq,Qw,Qx,Qz,Q3,Q5,Ja,Jc,Jd,Je,Jf,Jg,Jn,Jr,Js,Jt,Ju,Jv,Jw,Jz,J0,J1,J2,J3,J4,J5,J6,J7,J8,J9,Xa,Xd,Xe,Xf,Xg,Xh,Xi,Xj,Xk,Xl,Xm,Xn,Xo,Xp,Xq,Xr,Xs,Xt,Xu,Xv,Xw,Xx,Xy,Xz,X0,X1,X2,X3,X4,X5,X6,X7,X8,X9,Wa,Wb,Wc,Wf,Wg,Wh,Wi,Wj,Wl,Wm,Wn,Wo,Wp,Wq,Wr,Ws,Wt,Wu,Wv,Ww,Wx,Wy,Wz,W0,W3,W4,W5,W6,W7,W8,W9,Ya,Yb,Yc,Yf,Yg,Yh,Yi,Yj,Yk,Yl,Ym,Yn,Yo,Yp,Yq,Yr,Ys,Yt,Yu,Yv,Yw,Yx,Yy,Yz,Y0,Y1,Y2,Y3,Y4,Y5,Y6,Y7,Y8,Y9,Va,Vb,Vc,Vd,Ve,Vf,Vg,Vh,Vi,Vj,Vk,Vl,Vm,Vn,Vo,Vp,Vq,Vr,Vs,Vt,Vu,Vv,Vw,Vx,Vy,Vz,V0,V1,V2,V3,V4,V5,V6,V7,V8,V9,Ua,Ub,Uc,Ud,Ue,Uf,Ug,Uh,Ui,Uj,Uk,Ul,Um,Un,Uo,Up,Us,Ut,Uu,Uv,Uw,Ux,Uy,Uz,U0,U1,U2,U3,U4,U5,U6,U7,U8,U9,Ka,Kb,Kc,Kd,Ke,Kf,Kg,Kh,Ki,Kj,Kk,Kl,Km,Kn,Ko,Kq,Kr,Ks,Kt,Ku,Kv,Ky,Kz,K1,K2,K3,K4,K5,K6,K7,Ga,Gx,Hd,Hb,Gq,Gy,Gp,Pg]
         tactic =>
          try simp only [Gl] at *
          try simp only [nc2] at *
          try simp (maxSteps := 4000000) only [hlb,q1,hb,H5,Mn,Br,Gg,szM,G4]
          repeat' (first | with_reducible assumption | with_reducible refine And.intro ?_ ?_ | intro _ | omega | (rw [Gb]; omega))
          all_goals first
            | (with_reducible refine G7 ?_; kernel_rfl)
            | omega
            | exact ⟨k + 1, by ((try simp only [Gd, Gj, Gi, Gs, upd, Gt, G5, Hn, Nat.reduceDiv, Nat.reduceMod, Nat.reduceMul, Nat.reduceAdd, Nat.reduceEqDiff, List.set_cons_zero, List.set_cons_succ, if_true, if_false, reduceIte]); (first | refine Wk.of_fl ?_ | skip); simp only [Wk, wkK, Ht, wkT, wk1, AV.kept, keptAll, wkO, lk, Ge, and_true, true_and, and_self, Nat.reduceEqDiff, Nat.reduceLeDiff, if_true, if_false, reduceIte, reduceCtorEq, Option.isSome, false_implies]; try simp [Wk, wkK, wkT, wk1, AV.kept, keptAll, wkO, lk, Ge]), by omega, hs, by omega⟩
            | skip)
    have hdup := first_no (p := dup2 l ⟨ks, vs⟩) (n := l.length) fun j hj => hno j (by omega)
    rw [hdup] at hR2
    simp only at hR2
    clear hno
    (sym =>
     simp [hlb,szM,Be,Bg,Bf,Bh,Bd,Bc,Nk.eq_def,Za,Zb,Zc,Ze,Zf,Zg,Zn,Zo,Zp,Zq,Zr,Zs,Zu,Zv,Zw,Zx,Zy,Z5,Z6,Z9,Qa,Qb,Qf,Qi,Qj,Qk,Ql,Qm,Qn,Qo,Qq,Qw,Qx,Qz,Q3,Q5,Ja,Jc,Jd,Je,Jf,Jg,Jn,Jr,Js,Jt,Ju,Jv,Jw,Jz,J0,J1,J2,J3,J4,J5,J6,J7,J8,J9,Xa,Xd,Xe,Xf,Xg,Xh,Xi,Xj,Xk,Xl,Xm,Xn,Xo,Xp,Xq,Xr,Xs,Xt,Xu,Xv,Xw,Xx,Xy,Xz,X0,X1,X2,X3,X4,X5,X6,X7,X8,X9,Wa,Wb,Wc,Wf,Wg,Wh,Wi,Wj,Wl,Wm,Wn,Wo,Wp,Wq,Wr,Ws,Wt,Wu,Wv,Ww,Wx,Wy,Wz,W0,W3,W4,W5,W6,W7,W8,W9,Ya,Yb,Yc,Yf,Yg,Yh,Yi,Yj,Yk,Yl,Ym,Yn,Yo,Yp,Yq,Yr,Ys,Yt,Yu,Yv,Yw,Yx,Yy,Yz,Y0,Y1,Y2,Y3,Y4,Y5,Y6,Y7,Y8,Y9,Va,Vb,Vc,Vd,Ve,Vf,Vg,Vh,Vi,Vj,Vk,Vl,Vm,Vn,Vo,Vp,Vq,Vr,Vs,Vt,Vu,Vv,Vw,Vx,Vy,Vz,V0,V1,V2,V3,V4,V5,V6,V7,V8,V9,Ua,Ub,Uc,Ud,Ue,Uf,Ug,Uh,Ui,Uj,Uk,Ul,Um,Un,Uo,Up,Us,Ut,Uu,Uv,Uw,Ux,Uy,Uz,U0,U1,U2,U3,U4,U5,U6,U7,U8,U9,Ka,Kb,Kc,Kd,Ke,Kf,Kg,Kh,Ki,Kj,Kk,Kl,Km,Kn,Ko,Kq,Kr,Ks,Kt,Ku,Kv,Ky,Kz,K1,K2,K3,K4,K5,K6,K7,Ga,Gx,Hd,Hb,Gq,Gy,Gp,Pg]
     tactic =>
      try simp only [Gl] at *
      try simp only [nc2] at *
      try simp (maxSteps := 4000000) only [hlb,szM,G4]
      repeat' (first | with_reducible assumption | with_reducible refine And.intro ?_ ?_ | intro _ | omega | (rw [Gb]; omega))
      refine Ha [4, 5, 8, 9, 11, 12, 13, 32, 33, 34, 35, 36, 37, 38, 39, 40, 41, 42, 43, 44, 45, 46, 47, 48, 49, 50, 51, 52, 53] (fun k : Nat => [(31, .d (.int .i64 k))]) (fun k : Nat => []) (fun k : Nat => k ≤ l.length ∧ ∀ j, j < k → Oy l ⟨ks, vs⟩ j = false) (fun k : Nat => l.length - k) 0 ?_ ?_ ?_
      · simp
      · ((try simp only [Gd, Gj, Gi, Gs, upd, Gt, G5, Hn, Nat.reduceDiv, Nat.reduceMod, Nat.reduceMul, Nat.reduceAdd, Nat.reduceEqDiff, List.set_cons_zero, List.set_cons_succ, if_true, if_false, reduceIte]); (first | refine Wk.of_fl ?_ | skip); simp only [Wk, wkK, Ht, wkT, wk1, AV.kept, keptAll, wkO, lk, Ge, and_true, true_and, and_self, Nat.reduceEqDiff, Nat.reduceLeDiff, if_true, if_false, reduceIte, reduceCtorEq, Option.isSome, false_implies]; try simp [Wk, wkK, wkT, wk1, AV.kept, keptAll, wkO, lk, Ge])
      clear hlb hlt hk
      rintro k ⟨hk, hno⟩
      rcases Hg k l.length with ⟨hlt, hlb⟩ | ⟨hlt, hlb⟩
      · have q1 := Hp m0 hlt
        have hi20 := Dv hf k
        have hst : Oy l ⟨ks, vs⟩ k = false → ∀ j, j < k + 1 → Oy l ⟨ks, vs⟩ j = false := fun h => Ok hno h
        have hit : Oy l ⟨ks, vs⟩ k = true → R1 = k ∧ R2 = 6 := fun h => by
          rw [first_at hlt hno h] at hR2
          injection hR2 with e1 e2
          exact ⟨e1.symm, e2.symm⟩
        unfold Oy at hst hit
        unfold imp at hi20 hst hit
        obtain ⟨x, hx⟩ : ∃ x, l.getD k m0 = x := ⟨_, rfl⟩
        rw [hx] at q1 hst hit hi20
        simp only at hst hit
        (sym =>
         simp [hlb,q1,Gg,szM,Be,Bg,Bf,Bh,Bd,Bc,Nk.eq_def,Za,Zb,Zc,Ze,Zf,Zg,Zn,Zo,Zp,Zq,Zr,Zs,Zu,Zv,Zw,Zx,Zy,Z5,Z6,Z9,Qa,Qb,Qf,Qi,Qj,Qk,Ql,Qm,Qn,Qo,Qq,Qw,Qx,Qz,Q3,Q5,Ja,Jc,Jd,Je,Jf,Jg,Jn,Jr,Js,Jt,Ju,Jv,Jw,Jz,J0,J1,J2,J3,J4,J5,J6,J7,J8,J9,Xa,Xd,Xe,Xf,Xg,Xh,Xi,Xj,Xk,Xl,Xm,Xn,Xo,Xp,Xq,Xr,Xs,Xt,Xu,Xv,Xw,Xx,Xy,Xz,X0,X1,X2,X3,X4,X5,X6,X7,X8,X9,Wa,Wb,Wc,Wf,Wg,Wh,Wi,Wj,Wl,Wm,Wn,Wo,Wp,Wq,Wr,Ws,Wt,Wu,Wv,Ww,Wx,Wy,Wz,W0,W3,W4,W5,W6,W7,W8,W9,Ya,Yb,Yc,Yf,Yg,Yh,Yi,Yj,Yk,Yl,Ym,Yn,Yo,Yp,Yq,Yr,Ys,Yt,Yu,Yv,Yw,Yx,Yy,Yz,Y0,Y1,Y2,Y3,Y4,Y5,Y6,Y7,Y8,Y9,Va,Vb,Vc,Vd,Ve,Vf,Vg,Vh,Vi,Vj,Vk,Vl,Vm,Vn,Vo,Vp,Vq,Vr,Vs,Vt,Vu,Vv,Vw,Vx,Vy,Vz,V0,V1,V2,V3,V4,V5,V6,V7,V8,V9,Ua,Ub,Uc,Ud,Ue,Uf,Ug,Uh,Ui,Uj,Uk,Ul,Um,Un,Uo,Up,Us,Ut,Uu,Uv,Uw,Ux,Uy,Uz,U0,U1,U2,U3,U4,U5,U6,U7,U8,U9,Ka,Kb,Kc,Kd,Ke,Kf,Kg,Kh,Ki,Kj,Kk,Kl,Km,Kn,Ko,Kq,Kr,Ks,Kt,Ku,Kv,Ky,Kz,K1,K2,K3,K4,K5,K6,K7,Ga,Gx,Hd,Hb,Gq,Gy,Gp,Pg]
         tactic =>
          try simp only [Gl] at *
          try simp only [nc2] at *
          try simp (maxSteps := 4000000) only [hlb,q1,Gg,szM,G4]
          repeat' (first | with_reducible assumption | with_reducible refine And.intro ?_ ?_ | intro _ | omega | (rw [Gb]; omega))
          refine Ha [4, 5, 11, 12, 13, 40, 41, 42, 43, 44, 45, 46, 47, 48, 49, 50, 51, 52] (fun j : Nat => [(39, .d (.int .i64 j))]) (fun j : Nat => []) (fun j : Nat => j ≤ x.imps.length ∧ ∀ i, i < j → N6 (x.imps.getD i []) ks = true) (fun j : Nat => x.imps.length - j) 0 ?_ ?_ ?_
          · simp
          · ((try simp only [Gd, Gj, Gi, Gs, upd, Gt, G5, Hn, Nat.reduceDiv, Nat.reduceMod, Nat.reduceMul, Nat.reduceAdd, Nat.reduceEqDiff, List.set_cons_zero, List.set_cons_succ, if_true, if_false, reduceIte]); (first | refine Wk.of_fl ?_ | skip); simp only [Wk, wkK, Ht, wkT, wk1, AV.kept, keptAll, wkO, lk, Ge, and_true, true_and, and_self, Nat.reduceEqDiff, Nat.reduceLeDiff, if_true, if_false, reduceIte, reduceCtorEq, Option.isSome, false_implies]; try simp [Wk, wkK, wkT, wk1, AV.kept, keptAll, wkO, lk, Ge])
          rintro j ⟨hj, hnj⟩
          rcases Hg j x.imps.length with ⟨hjl, hjb⟩ | ⟨hjl, hjb⟩
          · have q2 := Hp ([] : List UInt8) hjl
            have hsj : N6 (x.imps.getD j []) ks = true → ∀ i, i < j + 1 → N6 (x.imps.getD i []) ks = true := fun h => Ok hnj h
            have hbj : N6 (x.imps.getD j []) ks = false → R1 = k ∧ R2 = 6 := fun h => hit (any_at (p := fun s => !N6 s ks) [] j hjl (by show (!N6 _ ks) = true; rw [h]; rfl))
            obtain ⟨y, hy⟩ : ∃ y, x.imps.getD j [] = y := ⟨_, rfl⟩
            rw [hy] at q2 hsj hbj
            cases hb : N6 y ks with
            | false =>
              obtain ⟨e1, e2⟩ := hbj hb
              subst e1 e2
              (sym =>
               simp [hlb,hjb,q1,q2,hb,hR,H5,Sp,Mn,Br,R9,Ak,Gg,szM,Be,Bg,Bf,Bh,Bd,Bc,Nk.eq_def,Za,Zb,Zc,Ze,Zf,Zg,Zn,Zo,Zp,Zq,Zr,Zs,Zu,Zv,Zw,Zx,Zy,Z5,Z6,Z9,Qa,Qb,Qf,Qi,Qj,Qk,Ql,Qm,Qn,Qo,Qq,Qw,Qx,Qz,Q3,Q5,Ja,Jc,Jd,Je,Jf,Jg,Jn,Jr,Js,Jt,Ju,Jv,Jw,Jz,J0,J1,J2,J3,J4,J5,J6,J7,J8,J9,Xa,Xd,Xe,Xf,Xg,Xh,Xi,Xj,Xk,Xl,Xm,Xn,Xo,Xp,Xq,Xr,Xs,Xt,Xu,Xv,Xw,Xx,Xy,Xz,X0,X1,X2,X3,X4,X5,X6,X7,X8,X9,Wa,Wb,Wc,Wf,Wg,Wh,Wi,Wj,Wl,Wm,Wn,Wo,Wp,Wq,Wr,Ws,Wt,Wu,Wv,Ww,Wx,Wy,Wz,W0,W3,W4,W5,W6,W7,W8,W9,Ya,Yb,Yc,Yf,Yg,Yh,Yi,Yj,Yk,Yl,Ym,Yn,Yo,Yp,Yq,Yr,Ys,Yt,Yu,Yv,Yw,Yx,Yy,Yz,Y0,Y1,Y2,Y3,Y4,Y5,Y6,Y7,Y8,Y9,Va,Vb,Vc,Vd,Ve,Vf,Vg,Vh,Vi,Vj,Vk,Vl,Vm,Vn,Vo,Vp,Vq,Vr,Vs,Vt,Vu,Vv,Vw,Vx,Vy,Vz,V0,V1,V2,V3,V4,V5,V6,V7,V8,V9,Ua,Ub,Uc,Ud,Ue,Uf,Ug,Uh,Ui,Uj,Uk,Ul,Um,Un,Uo,Up,Us,Ut,Uu,Uv,Uw,Ux,Uy,Uz,U0,U1,U2,U3,U4,U5,U6,U7,U8,U9,Ka,Kb,Kc,Kd,Ke,Kf,Kg,Kh,Ki,Kj,Kk,Kl,Km,Kn,Ko,Kq,Kr,Ks,Kt,Ku,Kv,Ky,Kz,K1,K2,K3,K4,K5,K6,K7,Ga,Gx,Hd,Hb,Gq,Gy,Gp,Pg]
               tactic =>
                try simp only [Gl] at *
                try simp only [nc2] at *
                try simp (maxSteps := 4000000) only [hlb,hjb,q1,q2,hb,hR,H5,Sp,Mn,Br,R9,Ak,Gg,szM,G4]
                repeat' (first | with_reducible assumption | with_reducible refine And.intro ?_ ?_ | intro _ | omega | (rw [Gb]; omega))
                all_goals first
                  | (with_reducible refine G7 ?_; kernel_rfl)
                  | omega
                  | trivial
                  | rfl
                  | skip)
            | true =>
              have hs := hsj hb
              (sym =>
               simp [hlb,hjb,q1,q2,hb,H5,Sp,Mn,Br,Gg,szM,Be,Bg,Bf,Bh,Bd,Bc,Nk.eq_def,Za,Zb,Zc,Ze,Zf,Zg,Zn,Zo,Zp,Zq,Zr,Zs,Zu,Zv,Zw,Zx,Zy,Z5,Z6,Z9,Qa,Qb,Qf,Qi,Qj,Qk,Ql,Qm,Qn,Qo,Qq,Qw,Qx,Qz,Q3,Q5,Ja,Jc,Jd,Je,Jf,Jg,Jn,Jr,Js,Jt,Ju,Jv,Jw,Jz,J0,J1,J2,J3,J4,J5,J6,J7,J8,J9,Xa,Xd,Xe,Xf,Xg,Xh,Xi,Xj,Xk,Xl,Xm,Xn,Xo,Xp,Xq,Xr,Xs,Xt,Xu,Xv,Xw,Xx,Xy,Xz,X0,X1,X2,X3,X4,X5,X6,X7,X8,X9,Wa,Wb,Wc,Wf,Wg,Wh,Wi,Wj,Wl,Wm,Wn,Wo,Wp,Wq,Wr,Ws,Wt,Wu,Wv,Ww,Wx,Wy,Wz,W0,W3,W4,W5,W6,W7,W8,W9,Ya,Yb,Yc,Yf,Yg,Yh,Yi,Yj,Yk,Yl,Ym,Yn,Yo,Yp,Yq,Yr,Ys,Yt,Yu,Yv,Yw,Yx,Yy,Yz,Y0,Y1,Y2,Y3,Y4,Y5,Y6,Y7,Y8,Y9,Va,Vb,Vc,Vd,Ve,Vf,Vg,Vh,Vi,Vj,Vk,Vl,Vm,Vn,Vo,Vp,Vq,Vr,Vs,Vt,Vu,Vv,Vw,Vx,Vy,Vz,V0,V1,V2,V3,V4,V5,V6,V7,V8,V9,Ua,Ub,Uc,Ud,Ue,Uf,Ug,Uh,Ui,Uj,Uk,Ul,Um,Un,Uo,Up,Us,Ut,Uu,Uv,Uw,Ux,Uy,Uz,U0,U1,U2,U3,U4,U5,U6,U7,U8,U9,Ka,Kb,Kc,Kd,Ke,Kf,Kg,Kh,Ki,Kj,Kk,Kl,Km,Kn,Ko,Kq,Kr,Ks,Kt,Ku,Kv,Ky,Kz,K1,K2,K3,K4,K5,K6,K7,Ga,Gx,Hd,Hb,Gq,Gy,Gp,Pg]
               tactic =>
                try simp only [Gl] at *
                try simp only [nc2] at *
                try simp (maxSteps := 4000000) only [hlb,hjb,q1,q2,hb,H5,Sp,Mn,Br,Gg,szM,G4]
                repeat' (first | with_reducible assumption | with_reducible refine And.intro ?_ ?_ | intro _ | omega | (rw [Gb]; omega))
                all_goals first
                  | (with_reducible refine G7 ?_; kernel_rfl)
                  | omega
                  | exact ⟨j + 1, by ((try simp only [Gd, Gj, Gi, Gs, upd, Gt, G5, Hn, Nat.reduceDiv, Nat.reduceMod, Nat.reduceMul, Nat.reduceAdd, Nat.reduceEqDiff, List.set_cons_zero, List.set_cons_succ, if_true, if_false, reduceIte]); (first | refine Wk.of_fl ?_ | skip); simp only [Wk, wkK, Ht, wkT, wk1, AV.kept, keptAll, wkO, lk, Ge, and_true, true_and, and_self, Nat.reduceEqDiff, Nat.reduceLeDiff, if_true, if_false, reduceIte, reduceCtorEq, Option.isSome, false_implies]; try simp [Wk, wkK, wkT, wk1, AV.kept, keptAll, wkO, lk, Ge]), by omega, hs, by omega⟩
                  | skip)
          · have hs := hst (any_not (p := fun s => !N6 s ks) [] fun i hi => by rw [hnj i (by omega)]; rfl)
            (sym =>
             simp [hlb,hjb,q1,Gg,szM,Be,Bg,Bf,Bh,Bd,Bc,Nk.eq_def,Za,Zb,Zc,Ze,Zf,Zg,Zn,Zo,Zp,Zq,Zr,Zs,Zu,Zv,Zw,Zx,Zy,Z5,Z6,Z9,Qa,Qb,Qf,Qi,Qj,Qk,Ql,Qm,Qn,Qo,Qq,Qw,Qx,Qz,Q3,Q5,Ja,Jc,Jd,Je,Jf,Jg,Jn,Jr,Js,Jt,Ju,Jv,Jw,Jz,J0,J1,J2,J3,J4,J5,J6,J7,J8,J9,Xa,Xd,Xe,Xf,Xg,Xh,Xi,Xj,Xk,Xl,Xm,Xn,Xo,Xp,Xq,Xr,Xs,Xt,Xu,Xv,Xw,Xx,Xy,Xz,X0,X1,X2,X3,X4,X5,X6,X7,X8,X9,Wa,Wb,Wc,Wf,Wg,Wh,Wi,Wj,Wl,Wm,Wn,Wo,Wp,Wq,Wr,Ws,Wt,Wu,Wv,Ww,Wx,Wy,Wz,W0,W3,W4,W5,W6,W7,W8,W9,Ya,Yb,Yc,Yf,Yg,Yh,Yi,Yj,Yk,Yl,Ym,Yn,Yo,Yp,Yq,Yr,Ys,Yt,Yu,Yv,Yw,Yx,Yy,Yz,Y0,Y1,Y2,Y3,Y4,Y5,Y6,Y7,Y8,Y9,Va,Vb,Vc,Vd,Ve,Vf,Vg,Vh,Vi,Vj,Vk,Vl,Vm,Vn,Vo,Vp,Vq,Vr,Vs,Vt,Vu,Vv,Vw,Vx,Vy,Vz,V0,V1,V2,V3,V4,V5,V6,V7,V8,V9,Ua,Ub,Uc,Ud,Ue,Uf,Ug,Uh,Ui,Uj,Uk,Ul,Um,Un,Uo,Up,Us,Ut,Uu,Uv,Uw,Ux,Uy,Uz,U0,U1,U2,U3,U4,U5,U6,U7,U8,U9,Ka,Kb,Kc,Kd,Ke,Kf,Kg,Kh,Ki,Kj,Kk,Kl,Km,Kn,Ko,Kq,Kr,Ks,Kt,Ku,Kv,Ky,Kz,K1,K2,K3,K4,K5,K6,K7,Ga,Gx,Hd,Hb,Gq,Gy,Gp,Pg]
             tactic =>
              try simp only [Gl] at *
              try simp only [nc2] at *
              try simp (maxSteps := 4000000) only [hlb,hjb,q1,Gg,szM,G4]
              repeat' (first | with_reducible assumption | with_reducible refine And.intro ?_ ?_ | intro _ | omega | (rw [Gb]; omega))
              all_goals first
                | (with_reducible refine G7 ?_; kernel_rfl)
                | omega
                | exact ⟨k + 1, by ((try simp only [Gd, Gj, Gi, Gs, upd, Gt, G5, Hn, Nat.reduceDiv, Nat.reduceMod, Nat.reduceMul, Nat.reduceAdd, Nat.reduceEqDiff, List.set_cons_zero, List.set_cons_succ, if_true, if_false, reduceIte]); (first | refine Wk.of_fl ?_ | skip); simp only [Wk, wkK, Ht, wkT, wk1, AV.kept, keptAll, wkO, lk, Ge, and_true, true_and, and_self, Nat.reduceEqDiff, Nat.reduceLeDiff, if_true, if_false, reduceIte, reduceCtorEq, Option.isSome, false_implies]; try simp [Wk, wkK, wkT, wk1, AV.kept, keptAll, wkO, lk, Ge]), by omega, hs, by omega⟩
                | skip))
      have hlack := first_no (p := Oy l ⟨ks, vs⟩) (n := l.length) fun j hj => hno j (by omega)
      rw [hlack] at hR2
      injection hR2 with e1 e2
      subst e1 e2
      (sym =>
       simp [hlb,hR,Br,R9,Ak,szM,Be,Bg,Bf,Bh,Bd,Bc,Nk.eq_def,Za,Zb,Zc,Ze,Zf,Zg,Zn,Zo,Zp,Zq,Zr,Zs,Zu,Zv,Zw,Zx,Zy,Z5,Z6,Z9,Qa,Qb,Qf,Qi,Qj,Qk,Ql,Qm,Qn,Qo,Qq,Qw,Qx,Qz,Q3,Q5,Ja,Jc,Jd,Je,Jf,Jg,Jn,Jr,Js,Jt,Ju,Jv,Jw,Jz,J0,J1,J2,J3,J4,J5,J6,J7,J8,J9,Xa,Xd,Xe,Xf,Xg,Xh,Xi,Xj,Xk,Xl,Xm,Xn,Xo,Xp,Xq,Xr,Xs,Xt,Xu,Xv,Xw,Xx,Xy,Xz,X0,X1,X2,X3,X4,X5,X6,X7,X8,X9,Wa,Wb,Wc,Wf,Wg,Wh,Wi,Wj,Wl,Wm,Wn,Wo,Wp,Wq,Wr,Ws,Wt,Wu,Wv,Ww,Wx,Wy,Wz,W0,W3,W4,W5,W6,W7,W8,W9,Ya,Yb,Yc,Yf,Yg,Yh,Yi,Yj,Yk,Yl,Ym,Yn,Yo,Yp,Yq,Yr,Ys,Yt,Yu,Yv,Yw,Yx,Yy,Yz,Y0,Y1,Y2,Y3,Y4,Y5,Y6,Y7,Y8,Y9,Va,Vb,Vc,Vd,Ve,Vf,Vg,Vh,Vi,Vj,Vk,Vl,Vm,Vn,Vo,Vp,Vq,Vr,Vs,Vt,Vu,Vv,Vw,Vx,Vy,Vz,V0,V1,V2,V3,V4,V5,V6,V7,V8,V9,Ua,Ub,Uc,Ud,Ue,Uf,Ug,Uh,Ui,Uj,Uk,Ul,Um,Un,Uo,Up,Us,Ut,Uu,Uv,Uw,Ux,Uy,Uz,U0,U1,U2,U3,U4,U5,U6,U7,U8,U9,Ka,Kb,Kc,Kd,Ke,Kf,Kg,Kh,Ki,Kj,Kk,Kl,Km,Kn,Ko,Kq,Kr,Ks,Kt,Ku,Kv,Ky,Kz,K1,K2,K3,K4,K5,K6,K7,Ga,Gx,Hd,Hb,Gq,Gy,Gp,Pg])))
end Go.Am.Graph
set_option linter.unusedSimpArgs false
set_option linter.unusedVariables false
set_option maxHeartbeats 1000000
namespace Go.Am.Graph
open Go.Proofs
open Enc (enc dec)
theorem Cq {α : Type} [DecidableEq α] : ∀ {a b : List α}, a.Nodup → (∀ x ∈ a, x ∈ b) → a.length ≤ b.length
  | [], _, _, _ => Nat.zero_le _
  | x :: a, b, hn, h => by
    rw [List.nodup_cons] at hn
    have hx := h x (List.mem_cons_self ..)
    have := Cq (a := a) (b := b.erase x) hn.2 (fun y hy => by
      have hne : y ≠ x := fun e => hn.1 (e ▸ hy)
      exact (List.mem_erase_of_ne hne).2 (h y (List.mem_cons_of_mem _ hy)))
    rw [List.length_erase_of_mem hx] at this
    have hp : 0 < b.length := List.length_pos_of_mem hx
    rw [List.length_cons]
    omega
def Tq (S : List Int) : List Bool := S.map fun _ => true
theorem B0 {x : Int} : ∀ {S : List Int}, Lv x false S (Tq S) = N6 x S
  | [] => rfl
  | y :: S => by
    show cond (x == y) true (Lv x false S (Tq S)) = ((x == y) || N6 x S)
    rw [B0]
    cases x == y <;> rfl
theorem gSetV_trues {x : Int} : ∀ {S : List Int}, N6 x S = false → T6 x true S (Tq S) = Tq (S ++ [x])
  | [], _ => rfl
  | y :: S, h => by
    simp only [N6, Bool.or_eq_false_iff] at h
    show cond (x == y) (true :: Tq S) (true :: T6 x true S (Tq S)) = true :: Tq (S ++ [x])
    rw [h.1, gSetV_trues h.2]
    rfl
theorem gSetK_no {x : Int} {S : List Int} (h : N6 x S = false) : Li x S = S ++ [x] := by
  unfold Li
  rw [h]
  rfl
def En (m : MS) (tr : Nat → List Int → List Int) (s : List UInt8) (S : List Int) : List Int :=
  cond (N6 s m.ks) (cond (N6 (Lv s 0 m.ks m.vs) S) S (tr (Lv s 0 m.ks m.vs).toNat (S ++ [Lv s 0 m.ks m.vs]))) S
def dfsL (m : MS) (tr : Nat → List Int → List Int) : List (List UInt8) → List Int → List Int
  | [], S => S
  | s :: ss, S => dfsL m tr ss (En m tr s S)
def dfs (l : List Mod) (m : MS) : Nat → Nat → List Int → List Int
  | 0, _, S => S
  | n + 1, i, S => dfsL m (dfs l m n) (imp l i) S
def Inn (N : Nat) (S : List Int) : Prop := S.Nodup ∧ ∀ x ∈ S, 0 ≤ x ∧ x < N
def Places (l : List Mod) (m : MS) : Prop := ∀ s, N6 s m.ks = true → 0 ≤ Lv s 0 m.ks m.vs ∧ Lv s 0 m.ks m.vs < l.length
theorem inn_len {N : Nat} {S : List Int} (h : Inn N S) : S.length ≤ N := by
  have := Cq (b := (List.range N).map fun (k : Nat) => Int.ofNat k) h.1 (fun x hx => by
    obtain ⟨h1, h2⟩ := h.2 x hx
    rw [List.mem_map]
    exact ⟨x.toNat, List.mem_range.2 (by omega), by show ((x.toNat : Nat) : Int) = x; omega⟩)
  simpa using this
theorem inn_snoc {N : Nat} {S : List Int} {x : Int} (h : Inn N S) (h0 : 0 ≤ x) (h1 : x < N) (hx : N6 x S = false) : Inn N (S ++ [x]) := by
  refine ⟨List.nodup_append.2 ⟨h.1, by simp, fun a ha b hb e => ?_⟩, fun y hy => ?_⟩
  · rw [List.mem_singleton] at hb
    subst hb; subst e
    exact gHas_no.1 hx ha
  · rcases List.mem_append.1 hy with hy | hy
    · exact h.2 y hy
    · rw [List.mem_singleton] at hy; subst hy; exact ⟨h0, h1⟩
theorem dfs_inn {l : List Mod} {m : MS} (hP : Places l m) : ∀ (n i : Nat) {S : List Int}, Inn l.length S → Inn l.length (dfs l m n i S) ∧ S.length ≤ (dfs l m n i S).length
  | 0, _, _, h => ⟨h, Nat.le_refl _⟩
  | n + 1, i, S, h => by
    have go : ∀ (ss : List (List UInt8)) {S : List Int}, Inn l.length S → Inn l.length (dfsL m (dfs l m n) ss S) ∧ S.length ≤ (dfsL m (dfs l m n) ss S).length := by
      intro ss
      induction ss with
      | nil => intro S h; exact ⟨h, Nat.le_refl _⟩
      | cons s ss ih =>
        intro S h
        have h1 : Inn l.length (En m (dfs l m n) s S) ∧ S.length ≤ (En m (dfs l m n) s S).length := by
          unfold En
          cases hh : N6 s m.ks with
          | false => exact ⟨h, Nat.le_refl _⟩
          | true =>
            rw [cond_true]
            cases hs : N6 (Lv s 0 m.ks m.vs) S with
            | true => exact ⟨h, Nat.le_refl _⟩
            | false =>
              rw [cond_false]
              obtain ⟨p1, p2⟩ := hP s hh
              have := dfs_inn hP n (Lv s 0 m.ks m.vs).toNat (inn_snoc h p1 p2 hs)
              refine ⟨this.1, ?_⟩
              have h3 := this.2
              rw [List.length_append] at h3
              omega
        obtain ⟨a1, a2⟩ := ih h1.1
        exact ⟨a1, Nat.le_trans h1.2 a2⟩
    exact go _ h
structure LX where
  l : List Mod
  m : MS
  i : Nat
  S : List Int
def T5 (l : List Mod) (m : MS) (S : List Int) : List Obj := [.box false [.d (.list 4 (l.map enc))], .box false [.d (.map (m.ks.map enc) (m.vs.map enc))], .box false [.mpr 90004], .box false [.clo 37 [.ref 90000 0, .ref 90001 0, .ref 90002 0, .ref 90003 0]], .mp (S.map enc) ((Tq S).map enc) false]
theorem Bx {l : List Mod} {m : MS} {S : List Int} : T5 l m S = [.box false [.d (.list 4 (l.map enc))], .box false [.d (.map (m.ks.map enc) (m.vs.map enc))], .box false [.mpr 90004], .box false [.clo 37 [.ref 90000 0, .ref 90001 0, .ref 90002 0, .ref 90003 0]], .mp (S.map enc) ((Tq S).map enc) false] := rfl
def P2 (n : Nat) : BCon where
  X := LX
  ok x := Ph x.l = true ∧ Places x.l x.m ∧ x.i < x.l.length ∧ Inn x.l.length x.S ∧ x.l.length < n + x.S.length
  args x := [.d (.int .i64 x.i), .ref 90000 0, .ref 90001 0, .ref 90002 0, .ref 90003 0]
  objs x := T5 x.l x.m x.S
  res x := .tup []
  post x := T5 x.l x.m (dfs x.l x.m n x.i x.S)
theorem bcon_led_1_zero : ∀ x, ¬ (P2 0).ok x := by
  rintro x ⟨_, _, _, h, h2⟩
  have := inn_len h
  omega
theorem led_1_post {n : Nat} {l : List Mod} {m : MS} {i : Nat} {S : List Int} : (P2 n).post ⟨l, m, i, S⟩ = T5 l m (dfs l m n i S) := rfl
theorem led_1_res {n : Nat} {x : LX} : (P2 n).res x = .tup [] := rfl
theorem canon5 : canon 5 [90000, 90001, 90002, 90003, 90004] := by
  intro j hj
  match j, hj with
  | 0, _ => rfl
  | 1, _ => rfl
  | 2, _ => rfl
  | 3, _ => rfl
  | 4, _ => rfl
noncomputable def Ly (n : Nat) : Ctx := ⟨tab, lkC [], 60, lkB [(37, (P2 n))], [], false⟩
theorem Sf (n : Nat) : (Ly n).τ = tab := rfl
theorem Sh (n : Nat) : (Ly n).Γ = lkC [] := rfl
theorem Sg (n : Nat) : (Ly n).dp = 60 := rfl
theorem Si (n : Nat) : (Ly n).Δ = lkB [(37, (P2 n))] := rfl
theorem Se (n : Nat) : (Ly n).cuts = [] := rfl
theorem Sd (n : Nat) : (Ly n).wr = false := rfl
set_option maxRecDepth 100000 in
theorem stepb_led_1 (n : Nat) (ih : A3 Try.prog (37, P2 n)) : A3 Try.prog (37, (P2 (n + 1))) := by
  refine ⟨Hh Try.func37 (by kernel_rfl) rfl, ?_⟩
  have K : Mj Try.prog (Ly n) := Nj P8 Ny (by simp) (by
    intro p hp
    simp only [List.mem_cons, List.not_mem_nil, or_false] at hp
    rcases hp with rfl
    · exact ih)
  obtain ⟨c, hc⟩ : ∃ c, Try.f37.body = some c := ⟨_, rfl⟩
  refine Ek K Try.func37 hc [] rfl 39 rfl (fun x hok => ?_)
  obtain ⟨l, m, i, S⟩ := x
  obtain ⟨hf, hP, hi, hS, hn⟩ := hok
  simp only at hf hP hi hS hn
  refine ⟨?_, ?_, ?_, ?_, ?_⟩
  · show Sq [.d (.int .i64 i), .ref 90000 0, .ref 90001 0, .ref 90002 0, .ref 90003 0] (T5 l m S)
    rw [Bx]
    simp [Sq,P7,Obj.tied,Hf,keptAll,AV.kept,Hc,Bj,lk]
  · show Hf (T5 l m S)
    rw [Bx]
    simp [Hf]
  · show Sq [] (T5 l m (dfs l m (n + 1) i S))
    rw [Bx]
    simp [Sq,P7,Obj.tied,Hf,keptAll,AV.kept,Hc,Bj,lk]
  · show (T5 l m S).length ≤ (T5 l m (dfs l m (n + 1) i S)).length
    rw [Bx, Bx]
    simp
  show awp (Ly n) c (PostB _ _ (T5 l m S).length (.tup []) (T5 l m (dfs l m (n + 1) i S))) ⟨[.d (.int .i64 i), .ref 90000 0, .ref 90001 0, .ref 90002 0, .ref 90003 0] ++ Tx 34, Hc (T5 l m S)⟩
  have hi20 := Dv hf i
  obtain ⟨R, hR⟩ : ∃ R, dfs l m (n + 1) i S = R := ⟨_, rfl⟩
  have hR2 : dfsL m (dfs l m n) (imp l i) S = R := hR
  rw [hR, Bx, Bx]
  clear hR
  have q1 := Hp m0 hi
  unfold imp at hi20 hR2
  obtain ⟨x, hx⟩ : ∃ x, l.getD i m0 = x := ⟨_, rfl⟩
  rw [hx] at q1 hi20 hR2
  obtain ⟨ks, vs⟩ := m
  unfold Places at hP
  simp only at hP hR2
  simp only [Try.f37, Option.some.injEq] at hc
  subst hc
  refine Nu 2 (of_decide_eq_true (by kernel_rfl)) ?_
  (sym =>
   simp [q1,Gg,szM,Sf,Sh,Sg,Si,Se,Sd,Za,Zb,Zc,Zd,Ze,Zf,Zg,Zn,Zo,Zp,Zq,Zr,Zs,Zt,Zv,Zx,Zy,Z5,Z6,Z7,Z8,Z9,Qa,Qb,Qc,Qd,Qe,Qf,Qj,Qk,Ql,Qm,Qn,Qo,Qq,Qr,Qs,Qt,Qu,Qv,Qw,Qx,Qy,Qz,Q3,Q4,Q5,Ja,Jc,Jd,Je,Jf,Jg,Jh,Ji,Jj,Jk,Jl,Jm,Jn,Jr,Js,Jt,Ju,Jv,Jw,Jz,J0,J1,J2,J3,J4,J5,J6,J7,J8,J9,Xa,Xd,Xe,Xf,Xg,Xh,Xi,Xj,Xk,Xl,Xm,Xn,Xo,Xp,Xq,Xr,Xs,Xu,Xv,Xw,Xx,Xy,Xz,X0,X1,X2,X3,X4,X5,X6,X7,X8,X9,Wa,Wb,Wc,Wf,Wg,Wh,Wi,Wj,Wl,Wm,Wn,Wo,Wp,Wq,Wr,Ws,Wt,Wu,Wv,Ww,Wx,Wy,Wz,W0,W3,W4,W5,W6,W7,W8,W9,Ya,Yb,Yc,Yf,Yg,Yh,Yi,Yj,Yk,Yl,Ym,Yn,Yo,Yp,Yq,Yr,Ys,Yt,Yu,Yv,Yw,Yx,Yy,Yz,Y0,Y1,Y2,Y3,Y4,Y5,Y6,Y7,Y8,Y9,Va,Vb,Vc,Vd,Ve,Vf,Vg,Vh,Vi,Vj,Vk,Vl,Vm,Vn,Vo,Vp,Vq,Vr,Vs,Vt,Vu,Vv,Vw,Vx,Vy,Vz,V0,V1,V2,V3,V4,V5,V6,V7,V8,V9,Ua,Ub,Uc,Ud,Ue,Uf,Ug,Uh,Ui,Uo,Up,Us,Ut,Uu,Uv,Uw,Ux,Uy,Uz,U0,U1,U2,U3,U4,U5,U6,U7,U8,U9,Ka,Kb,Kc,Kd,Ke,Kf,Kg,Kh,Ki,Kj,Kk,Kl,Km,Kn,Ko,Kq,Kr,Ks,Kt,Ku,Kv,Kw,Ky,Kz,K0,K1,K2,K3,K4,K5,K6,K7,K8,K9,Ga,Gx,Hd,Hb,Gq,Gy,Gp,Pg,Sn,tab64]
   tactic =>
    try simp only [Gl] at *
    try simp only [nc2] at *
    try simp (maxSteps := 4000000) only [q1,Gg,szM,G4]
    repeat' (first | with_reducible assumption | with_reducible refine And.intro ?_ ?_ | intro _ | omega | (rw [Gb]; omega))
    refine Ha [7, 8, 9, 17, 18, 19, 20, 21, 22, 23, 24, 25, 26, 27, 28, 29, 30, 31, 32, 33, 34, 35, 36, 37, 38] (fun q : Nat × List Int => [(16, .d (.int .i64 q.1))]) (fun q : Nat × List Int => [(90004, .mp (q.2.map enc) ((Tq q.2).map enc) false)]) (fun q : Nat × List Int => q.1 ≤ x.imps.length ∧ Inn l.length q.2 ∧ S.length ≤ q.2.length ∧ dfsL ⟨ks, vs⟩ (dfs l ⟨ks, vs⟩ n) (x.imps.drop q.1) q.2 = R) (fun q : Nat × List Int => x.imps.length - q.1) (0, S) ?_ ?_ ?_
    · exact ⟨Nat.zero_le _, hS, Nat.le_refl _, hR2⟩
    · ((try simp only [Gd, Gj, Gi, Gs, upd, Gt, G5, Hn, Nat.reduceDiv, Nat.reduceMod, Nat.reduceMul, Nat.reduceAdd, Nat.reduceEqDiff, List.set_cons_zero, List.set_cons_succ, if_true, if_false, reduceIte]); (first | refine Wk.of_fl ?_ | skip); simp only [Wk, wkK, Ht, wkT, wk1, AV.kept, keptAll, wkO, lk, Ge, and_true, true_and, and_self, Nat.reduceEqDiff, Nat.reduceLeDiff, if_true, if_false, reduceIte, reduceCtorEq, Option.isSome, false_implies]; try simp [Wk, wkK, wkT, wk1, AV.kept, keptAll, wkO, lk, Ge])
    rintro ⟨k, T⟩ ⟨hk, hT, hTl, hTR⟩
    simp only at hk hT hTl hTR
    rcases Hg k x.imps.length with ⟨hlt, hlb⟩ | ⟨hlt, hlb⟩
    · have q2 := Hp ([] : List UInt8) hlt
      rw [List.drop_eq_getElem_cons hlt, show x.imps[k] = x.imps.getD k [] by simp [hlt], dfsL] at hTR
      obtain ⟨y, hy⟩ : ∃ y, x.imps.getD k [] = y := ⟨_, rfl⟩
      rw [hy] at q2 hTR
      unfold En at hTR
      simp only at hTR
      cases hb : N6 y ks with
      | false =>
        rw [hb, cond_false] at hTR
        (sym =>
         simp [hlb,q2,hb,H5,Sp,Mn,Gg,szM,Sf,Sh,Sg,Si,Se,Sd,Za,Zb,Zc,Zd,Ze,Zf,Zg,Zn,Zo,Zp,Zq,Zr,Zs,Zt,Zv,Zx,Zy,Z5,Z6,Z7,Z8,Z9,Qa,Qb,Qc,Qd,Qe,Qf,Qj,Qk,Ql,Qm,Qn,Qo,Qq,Qr,Qs,Qt,Qu,Qv,Qw,Qx,Qy,Qz,Q3,Q4,Q5,Ja,Jc,Jd,Je,Jf,Jg,Jh,Ji,Jj,Jk,Jl,Jm,Jn,Jr,Js,Jt,Ju,Jv,Jw,Jz,J0,J1,J2,J3,J4,J5,J6,J7,J8,J9,Xa,Xd,Xe,Xf,Xg,Xh,Xi,Xj,Xk,Xl,Xm,Xn,Xo,Xp,Xq,Xr,Xs,Xu,Xv,Xw,Xx,Xy,Xz,X0,X1,X2,X3,X4,X5,X6,X7,X8,X9,Wa,Wb,Wc,Wf,Wg,Wh,Wi,Wj,Wl,Wm,Wn,Wo,Wp,Wq,Wr,Ws,Wt,Wu,Wv,Ww,Wx,Wy,Wz,W0,W3,W4,W5,W6,W7,W8,W9,Ya,Yb,Yc,Yf,Yg,Yh,Yi,Yj,Yk,Yl,Ym,Yn,Yo,Yp,Yq,Yr,Ys,Yt,Yu,Yv,Yw,Yx,Yy,Yz,Y0,Y1,Y2,Y3,Y4,Y5,Y6,Y7,Y8,Y9,Va,Vb,Vc,Vd,Ve,Vf,Vg,Vh,Vi,Vj,Vk,Vl,Vm,Vn,Vo,Vp,Vq,Vr,Vs,Vt,Vu,Vv,Vw,Vx,Vy,Vz,V0,V1,V2,V3,V4,V5,V6,V7,V8,V9,Ua,Ub,Uc,Ud,Ue,Uf,Ug,Uh,Ui,Uo,Up,Us,Ut,Uu,Uv,Uw,Ux,Uy,Uz,U0,U1,U2,U3,U4,U5,U6,U7,U8,U9,Ka,Kb,Kc,Kd,Ke,Kf,Kg,Kh,Ki,Kj,Kk,Kl,Km,Kn,Ko,Kq,Kr,Ks,Kt,Ku,Kv,Kw,Ky,Kz,K0,K1,K2,K3,K4,K5,K6,K7,K8,K9,Ga,Gx,Hd,Hb,Gq,Gy,Gp,Pg,Sn,tab64]
         tactic =>
          try simp only [Gl] at *
          try simp only [nc2] at *
          try simp (maxSteps := 4000000) only [hlb,q2,hb,H5,Sp,Mn,Gg,szM,G4]
          repeat' (first | with_reducible assumption | with_reducible refine And.intro ?_ ?_ | intro _ | omega | (rw [Gb]; omega))
          all_goals first
            | (with_reducible refine G7 ?_; kernel_rfl)
            | omega
            | exact ⟨(k + 1, T), by ((try simp only [Gd, Gj, Gi, Gs, upd, Gt, G5, Hn, Nat.reduceDiv, Nat.reduceMod, Nat.reduceMul, Nat.reduceAdd, Nat.reduceEqDiff, List.set_cons_zero, List.set_cons_succ, if_true, if_false, reduceIte]); (first | refine Wk.of_fl ?_ | skip); simp only [Wk, wkK, Ht, wkT, wk1, AV.kept, keptAll, wkO, lk, Ge, and_true, true_and, and_self, Nat.reduceEqDiff, Nat.reduceLeDiff, if_true, if_false, reduceIte, reduceCtorEq, Option.isSome, false_implies]; try simp [Wk, wkK, wkT, wk1, AV.kept, keptAll, wkO, lk, Ge]), by simp only; omega, hT, hTl, hTR, by simp only; omega⟩
            | skip)
      | true =>
        obtain ⟨p1, p2⟩ := hP y hb
        rw [hb, cond_true] at hTR
        obtain ⟨v, hv⟩ : ∃ v, Lv y 0 ks vs = v := ⟨_, rfl⟩
        rw [hv] at hTR p1 p2
        cases hbv : N6 v T with
        | true =>
          rw [hbv, cond_true] at hTR
          (sym =>
           simp [hlb,q2,hb,hv,hbv,B0,H5,Bq,Sp,mHas_I,Mn,Dt,Gg,szM,Sf,Sh,Sg,Si,Se,Sd,Za,Zb,Zc,Zd,Ze,Zf,Zg,Zn,Zo,Zp,Zq,Zr,Zs,Zt,Zv,Zx,Zy,Z5,Z6,Z7,Z8,Z9,Qa,Qb,Qc,Qd,Qe,Qf,Qj,Qk,Ql,Qm,Qn,Qo,Qq,Qr,Qs,Qt,Qu,Qv,Qw,Qx,Qy,Qz,Q3,Q4,Q5,Ja,Jc,Jd,Je,Jf,Jg,Jh,Ji,Jj,Jk,Jl,Jm,Jn,Jr,Js,Jt,Ju,Jv,Jw,Jz,J0,J1,J2,J3,J4,J5,J6,J7,J8,J9,Xa,Xd,Xe,Xf,Xg,Xh,Xi,Xj,Xk,Xl,Xm,Xn,Xo,Xp,Xq,Xr,Xs,Xu,Xv,Xw,Xx,Xy,Xz,X0,X1,X2,X3,X4,X5,X6,X7,X8,X9,Wa,Wb,Wc,Wf,Wg,Wh,Wi,Wj,Wl,Wm,Wn,Wo,Wp,Wq,Wr,Ws,Wt,Wu,Wv,Ww,Wx,Wy,Wz,W0,W3,W4,W5,W6,W7,W8,W9,Ya,Yb,Yc,Yf,Yg,Yh,Yi,Yj,Yk,Yl,Ym,Yn,Yo,Yp,Yq,Yr,Ys,Yt,Yu,Yv,Yw,Yx,Yy,Yz,Y0,Y1,Y2,Y3,Y4,Y5,Y6,Y7,Y8,Y9,Va,Vb,Vc,Vd,Ve,Vf,Vg,Vh,Vi,Vj,Vk,Vl,Vm,Vn,Vo,Vp,Vq,Vr,Vs,Vt,Vu,Vv,Vw,Vx,Vy,Vz,V0,V1,V2,V3,V4,V5,V6,V7,V8,V9,Ua,Ub,Uc,Ud,Ue,Uf,Ug,Uh,Ui,Uo,Up,Us,Ut,Uu,Uv,Uw,Ux,Uy,Uz,U0,U1,U2,U3,U4,U5,U6,U7,U8,U9,Ka,Kb,Kc,Kd,Ke,Kf,Kg,Kh,Ki,Kj,Kk,Kl,Km,Kn,Ko,Kq,Kr,Ks,Kt,Ku,Kv,Kw,Ky,Kz,K0,K1,K2,K3,K4,K5,K6,K7,K8,K9,Ga,Gx,Hd,Hb,Gq,Gy,Gp,Pg,Sn,tab64]
           tactic =>
            try simp only [Gl] at *
            try simp only [nc2] at *
            try simp (maxSteps := 4000000) only [hlb,q2,hb,hv,hbv,B0,H5,Bq,Sp,mHas_I,Mn,Dt,Gg,szM,G4]
            repeat' (first | with_reducible assumption | with_reducible refine And.intro ?_ ?_ | intro _ | omega | (rw [Gb]; omega))
            all_goals first
              | (with_reducible refine G7 ?_; kernel_rfl)
              | omega
              | exact ⟨(k + 1, T), by ((try simp only [Gd, Gj, Gi, Gs, upd, Gt, G5, Hn, Nat.reduceDiv, Nat.reduceMod, Nat.reduceMul, Nat.reduceAdd, Nat.reduceEqDiff, List.set_cons_zero, List.set_cons_succ, if_true, if_false, reduceIte]); (first | refine Wk.of_fl ?_ | skip); simp only [Wk, wkK, Ht, wkT, wk1, AV.kept, keptAll, wkO, lk, Ge, and_true, true_and, and_self, Nat.reduceEqDiff, Nat.reduceLeDiff, if_true, if_false, reduceIte, reduceCtorEq, Option.isSome, false_implies]; try simp [Wk, wkK, wkT, wk1, AV.kept, keptAll, wkO, lk, Ge]), by simp only; omega, hT, hTl, hTR, by simp only; omega⟩
              | skip)
        | false =>
          rw [hbv, cond_false] at hTR
          have hk1 := gSetK_no hbv
          have hv1 := gSetV_trues hbv
          have hT2 := inn_snoc hT p1 p2 hbv
          obtain ⟨p, rfl⟩ : ∃ p : Nat, v = p := ⟨v.toNat, by omega⟩
          rw [Int.toNat_natCast] at hTR
          have hd := dfs_inn (l := l) (m := ⟨ks, vs⟩) hP n p hT2
          have hl2 : (T ++ [(p : Int)]).length = T.length + 1 := by simp
          obtain ⟨U, hU⟩ : ∃ U, T ++ [(p : Int)] = U := ⟨_, rfl⟩
          rw [hU] at hTR hk1 hv1 hT2 hd hl2
          obtain ⟨V, hV⟩ : ∃ V, dfs l ⟨ks, vs⟩ n p U = V := ⟨_, rfl⟩
          have hp2 : (P2 n).post ⟨l, ⟨ks, vs⟩, p, U⟩ = T5 l ⟨ks, vs⟩ V := by rw [led_1_post, hV]
          rw [hV] at hTR hd
          (sym =>
           simp [hlb,q2,hb,hv,hbv,hk1,hv1,B0,H5,Bq,Sp,mHas_I,Mn,Dt,mSetK_I,mSetV_IB,Gg,szM,Sf,Sh,Sg,Si,Se,Sd,Za,Zb,Zc,Zd,Ze,Zf,Zg,Zn,Zo,Zp,Zq,Zr,Zs,Zt,Zv,Zx,Zy,Z5,Z6,Z7,Z8,Z9,Qa,Qb,Qc,Qd,Qe,Qf,Qj,Qk,Ql,Qm,Qn,Qo,Qq,Qr,Qs,Qt,Qu,Qv,Qw,Qx,Qy,Qz,Q3,Q4,Q5,Ja,Jc,Jd,Je,Jf,Jg,Jh,Ji,Jj,Jk,Jl,Jm,Jn,Jr,Js,Jt,Ju,Jv,Jw,Jz,J0,J1,J2,J3,J4,J5,J6,J7,J8,J9,Xa,Xd,Xe,Xf,Xg,Xh,Xi,Xj,Xk,Xl,Xm,Xn,Xo,Xp,Xq,Xr,Xs,Xu,Xv,Xw,Xx,Xy,Xz,X0,X1,X2,X3,X4,X5,X6,X7,X8,X9,Wa,Wb,Wc,Wf,Wg,Wh,Wi,Wj,Wl,Wm,Wn,Wo,Wp,Wq,Wr,Ws,Wt,Wu,Wv,Ww,Wx,Wy,Wz,W0,W3,W4,W5,W6,W7,W8,W9,Ya,Yb,Yc,Yf,Yg,Yh,Yi,Yj,Yk,Yl,Ym,Yn,Yo,Yp,Yq,Yr,Ys,Yt,Yu,Yv,Yw,Yx,Yy,Yz,Y0,Y1,Y2,Y3,Y4,Y5,Y6,Y7,Y8,Y9,Va,Vb,Vc,Vd,Ve,Vf,Vg,Vh,Vi,Vj,Vk,Vl,Vm,Vn,Vo,Vp,Vq,Vr,Vs,Vt,Vu,Vv,Vw,Vx,Vy,Vz,V0,V1,V2,V3,V4,V5,V6,V7,V8,V9,Ua,Ub,Uc,Ud,Ue,Uf,Ug,Uh,Ui,Uo,Up,Us,Ut,Uu,Uv,Uw,Ux,Uy,Uz,U0,U1,U2,U3,U4,U5,U6,U7,U8,U9,Ka,Kb,Kc,Kd,Ke,Kf,Kg,Kh,Ki,Kj,Kk,Kl,Km,Kn,Ko,Kq,Kr,Ks,Kt,Ku,Kv,Kw,Ky,Kz,K0,K1,K2,K3,K4,K5,K6,K7,K8,K9,Ga,Gx,Hd,Hb,Gq,Gy,Gp,Pg,Sn,tab64]
           tactic =>
            try simp only [Gl] at *
            try simp only [nc2] at *
            try simp (maxSteps := 4000000) only [hlb,q2,hb,hv,hbv,hk1,hv1,B0,H5,Bq,Sp,mHas_I,Mn,Dt,mSetK_I,mSetV_IB,Gg,szM,G4]
            repeat' (first | with_reducible assumption | with_reducible refine And.intro ?_ ?_ | intro _ | omega | (rw [Gb]; omega))
            refine T0 (bc := P2 n) ⟨l, ⟨ks, vs⟩, p, U⟩ [90000, 90001, 90002, 90003, 90004] ⟨hf, hP, by simp only; omega, hT2, by simp only; omega⟩ rfl (by simp) (by rw [hp2]; rfl) ?_ ?_ ?_
            · show Hj _ _ (T5 l ⟨ks, vs⟩ U) _
              rw [Bx]
              simp [Hj,lk,rnO,rnA,rnAs,rk]
            · show N8 (List.drop (T5 l ⟨ks, vs⟩ U).length _) _
              rw [Bx]
              simp [N8,lk]
            (sym =>
             simp [hp2,led_1_res,Bx,Gg,szM,Sf,Sh,Sg,Si,Se,Sd,Za,Zb,Zc,Zd,Ze,Zf,Zg,Zn,Zo,Zp,Zq,Zr,Zs,Zt,Zv,Zx,Zy,Z5,Z6,Z7,Z8,Z9,Qa,Qb,Qc,Qd,Qe,Qf,Qj,Qk,Ql,Qm,Qn,Qo,Qq,Qr,Qs,Qt,Qu,Qv,Qw,Qx,Qy,Qz,Q3,Q4,Q5,Ja,Jc,Jd,Je,Jf,Jg,Jh,Ji,Jj,Jk,Jl,Jm,Jn,Jr,Js,Jt,Ju,Jv,Jw,Jz,J0,J1,J2,J3,J4,J5,J6,J7,J8,J9,Xa,Xd,Xe,Xf,Xg,Xh,Xi,Xj,Xk,Xl,Xm,Xn,Xo,Xp,Xq,Xr,Xs,Xu,Xv,Xw,Xx,Xy,Xz,X0,X1,X2,X3,X4,X5,X6,X7,X8,X9,Wa,Wb,Wc,Wf,Wg,Wh,Wi,Wj,Wl,Wm,Wn,Wo,Wp,Wq,Wr,Ws,Wt,Wu,Wv,Ww,Wx,Wy,Wz,W0,W3,W4,W5,W6,W7,W8,W9,Ya,Yb,Yc,Yf,Yg,Yh,Yi,Yj,Yk,Yl,Ym,Yn,Yo,Yp,Yq,Yr,Ys,Yt,Yu,Yv,Yw,Yx,Yy,Yz,Y0,Y1,Y2,Y3,Y4,Y5,Y6,Y7,Y8,Y9,Va,Vb,Vc,Vd,Ve,Vf,Vg,Vh,Vi,Vj,Vk,Vl,Vm,Vn,Vo,Vp,Vq,Vr,Vs,Vt,Vu,Vv,Vw,Vx,Vy,Vz,V0,V1,V2,V3,V4,V5,V6,V7,V8,V9,Ua,Ub,Uc,Ud,Ue,Uf,Ug,Uh,Ui,Uo,Up,Us,Ut,Uu,Uv,Uw,Ux,Uy,Uz,U0,U1,U2,U3,U4,U5,U6,U7,U8,U9,Ka,Kb,Kc,Kd,Ke,Kf,Kg,Kh,Ki,Kj,Kk,Kl,Km,Kn,Ko,Kq,Kr,Ks,Kt,Ku,Kv,Kw,Ky,Kz,K0,K1,K2,K3,K4,K5,K6,K7,K8,K9,Ga,Gx,Hd,Hb,Gq,Gy,Gp,Pg,Sn,tab64]
             tactic =>
              try simp only [Gl] at *
              try simp only [nc2] at *
              try simp (maxSteps := 4000000) only [hp2,led_1_res,Bx,Gg,szM,G4]
              repeat' (first | with_reducible assumption | with_reducible refine And.intro ?_ ?_ | intro _ | omega | (rw [Gb]; omega))
              all_goals first
                | (with_reducible refine G7 ?_; kernel_rfl)
                | omega
                | exact ⟨(k + 1, V), by ((try simp only [Gd, Gj, Gi, Gs, upd, Gt, G5, Hn, Nat.reduceDiv, Nat.reduceMod, Nat.reduceMul, Nat.reduceAdd, Nat.reduceEqDiff, List.set_cons_zero, List.set_cons_succ, if_true, if_false, reduceIte]); (first | refine Wk.of_fl ?_ | skip); simp only [Wk, wkK, Ht, wkT, wk1, AV.kept, keptAll, wkO, lk, Ge, and_true, true_and, and_self, Nat.reduceEqDiff, Nat.reduceLeDiff, if_true, if_false, reduceIte, reduceCtorEq, Option.isSome, false_implies]; try simp [Wk, wkK, wkT, wk1, AV.kept, keptAll, wkO, lk, Ge]), by simp only; omega, hd.1, by simp only; omega, hTR, by simp only; omega⟩
                | skip))
    · have hke : k = x.imps.length := by omega
      rw [hke, List.drop_length, dfsL] at hTR
      subst hTR
      (sym =>
       simp [hlb,szM,Sf,Sh,Sg,Si,Se,Sd,Za,Zb,Zc,Zd,Ze,Zf,Zg,Zn,Zo,Zp,Zq,Zr,Zs,Zt,Zv,Zx,Zy,Z5,Z6,Z7,Z8,Z9,Qa,Qb,Qc,Qd,Qe,Qf,Qj,Qk,Ql,Qm,Qn,Qo,Qq,Qr,Qs,Qt,Qu,Qv,Qw,Qx,Qy,Qz,Q3,Q4,Q5,Ja,Jc,Jd,Je,Jf,Jg,Jh,Ji,Jj,Jk,Jl,Jm,Jn,Jr,Js,Jt,Ju,Jv,Jw,Jz,J0,J1,J2,J3,J4,J5,J6,J7,J8,J9,Xa,Xd,Xe,Xf,Xg,Xh,Xi,Xj,Xk,Xl,Xm,Xn,Xo,Xp,Xq,Xr,Xs,Xu,Xv,Xw,Xx,Xy,Xz,X0,X1,X2,X3,X4,X5,X6,X7,X8,X9,Wa,Wb,Wc,Wf,Wg,Wh,Wi,Wj,Wl,Wm,Wn,Wo,Wp,Wq,Wr,Ws,Wt,Wu,Wv,Ww,Wx,Wy,Wz,W0,W3,W4,W5,W6,W7,W8,W9,Ya,Yb,Yc,Yf,Yg,Yh,Yi,Yj,Yk,Yl,Ym,Yn,Yo,Yp,Yq,Yr,Ys,Yt,Yu,Yv,Yw,Yx,Yy,Yz,Y0,Y1,Y2,Y3,Y4,Y5,Y6,Y7,Y8,Y9,Va,Vb,Vc,Vd,Ve,Vf,Vg,Vh,Vi,Vj,Vk,Vl,Vm,Vn,Vo,Vp,Vq,Vr,Vs,Vt,Vu,Vv,Vw,Vx,Vy,Vz,V0,V1,V2,V3,V4,V5,V6,V7,V8,V9,Ua,Ub,Uc,Ud,Ue,Uf,Ug,Uh,Ui,Uo,Up,Us,Ut,Uu,Uv,Uw,Ux,Uy,Uz,U0,U1,U2,U3,U4,U5,U6,U7,U8,U9,Ka,Kb,Kc,Kd,Ke,Kf,Kg,Kh,Ki,Kj,Kk,Kl,Km,Kn,Ko,Kq,Kr,Ks,Kt,Ku,Kv,Kw,Ky,Kz,K0,K1,K2,K3,K4,K5,K6,K7,K8,K9,Ga,Gx,Hd,Hb,Gq,Gy,Gp,Pg,Sn,tab64]
       tactic =>
        try simp only [Gl] at *
        try simp only [nc2] at *
        try simp (maxSteps := 4000000) only [hlb,szM,G4]
        repeat' (first | with_reducible assumption | with_reducible refine And.intro ?_ ?_ | intro _ | omega | (rw [Gb]; omega))
        refine ⟨[90000, 90001, 90002, 90003, 90004], by simp, rfl, canon5, ?_⟩
        simp [Hj,lk,rnO,rnA,rnAs,rk]))
theorem goodbn_led_1 : ∀ n, A3 Try.prog (37, P2 n)
  | 0 => goodb_void (Hh Try.func37 (by kernel_rfl) rfl) bcon_led_1_zero
  | n + 1 => stepb_led_1 n (goodbn_led_1 n)
def L2 : BCon := P2 21
theorem goodb_led_1A : A3 Try.prog (37, L2) := goodbn_led_1 _
def Om (l : List Mod) (m : MS) (i : Nat) : List Int := dfs l m 21 i []
theorem led_1A_post {l : List Mod} {m : MS} {i : Nat} {S : List Int} : L2.post ⟨l, m, i, S⟩ = T5 l m (dfs l m 21 i S) := rfl
theorem led_1A_res {x : LX} : L2.res x = .tup [] := rfl
structure LX2 where
  l : List Mod
  m : MS
  i : Nat
def L3 : BCon where
  X := LX2
  ok x := Ph x.l = true ∧ Places x.l x.m ∧ x.i < x.l.length
  args x := [.d (.list 4 (x.l.map enc)), .d (.map (x.m.ks.map enc) (x.m.vs.map enc)), .d (.int .i64 x.i)]
  objs _ := []
  res _ := .nilp
  post x := [.mp ((Om x.l x.m x.i).map enc) ((Tq (Om x.l x.m x.i)).map enc) false]
  out _ := some 0
theorem led_post {l : List Mod} {m : MS} {i : Nat} : L3.post ⟨l, m, i⟩ = [.mp ((Om l m i).map enc) ((Tq (Om l m i)).map enc) false] := rfl
noncomputable def E0 : Ctx := ⟨tab, lkC [], 60, lkB [(37, L2)], [], false⟩
theorem bctx_led_t : E0.τ = tab := rfl
theorem bctx_led_c : E0.Γ = lkC [] := rfl
theorem bctx_led_d : E0.dp = 60 := rfl
theorem bctx_led_b : E0.Δ = lkB [(37, L2)] := rfl
theorem bctx_led_u : E0.cuts = [] := rfl
theorem bctx_led_w : E0.wr = false := rfl
set_option maxRecDepth 100000 in
theorem goodb_led : A3 Try.prog (27, L3) := by
  refine ⟨Hh Try.func27 (by kernel_rfl) rfl, ?_⟩
  have K : Mj Try.prog E0 := Nj P8 Ny (by simp) (by
    intro p hp
    simp only [List.mem_cons, List.not_mem_nil, or_false] at hp
    rcases hp with rfl
    · exact goodb_led_1A)
  obtain ⟨c, hc⟩ : ∃ c, Try.f27.body = some c := ⟨_, rfl⟩
  refine fn_soundBm (oj := fun _ => 0) K Try.func27 hc [.tmp 6] rfl 15 rfl (fun x hok => ?_) (fun _ => rfl)
  obtain ⟨l, m, i⟩ := x
  obtain ⟨hf, hP, hi⟩ := hok
  simp only at hf hP hi
  obtain ⟨U, hU⟩ : ∃ U, Om l m i = U := ⟨_, rfl⟩
  have hp0 := led_post (l := l) (m := m) (i := i)
  rw [hU] at hp0
  refine ⟨?_, ?_, ?_, ?_, ?_⟩
  · show Sq [.d (.list 4 (l.map enc)), .d (.map (m.ks.map enc) (m.vs.map enc)), .d (.int .i64 i)] []
    simp [Sq,P7,Obj.tied,Hf,keptAll,AV.kept,Hc,Bj,lk]
  · show Hf []
    simp [Hf]
  · rw [hp0]
    simp [Sq,P7,Obj.tied,Hf,keptAll,AV.kept,Hc,Bj,lk]
  · show 0 ≤ _
    exact Nat.zero_le _
  show awp _ c (PostBm _ _ 0 0 (L3.post ⟨l, m, i⟩)) ⟨[.d (.list 4 (l.map enc)), .d (.map (m.ks.map enc) (m.vs.map enc)), .d (.int .i64 i)] ++ Tx 12, Hc []⟩
  rw [hp0]
  have hl20 := Px hf
  have hp2 : L2.post ⟨l, m, i, []⟩ = T5 l m U := by rw [led_1A_post, ← hU]; rfl
  obtain ⟨ks, vs⟩ := m
  simp only [Try.f27, Option.some.injEq] at hc
  subst hc
  (sym =>
   simp [bctx_led_t,bctx_led_c,bctx_led_d,bctx_led_b,bctx_led_u,bctx_led_w,Za,Zb,Zc,Ze,Zf,Zg,Zn,Zo,Zp,Zq,Zr,Zs,Zu,Zv,Zw,Z7,Z8,Z9,Qa,Qb,Qc,Qd,Qe,Qf,Qg,Qi,Qj,Ql,Qm,Qn,Qo,Qq,Qr,Qs,Qt,Qu,Qv,Qw,Qx,Qy,Qz,Q3,Q4,Q5,Ja,Jc,Jd,Je,Jf,Jg,Jh,Ji,Jj,Jk,Jl,Jm,Jn,Js,Jt,Jz,J0,Xd,Xe,Xf,Xg,Xh,Xi,Xj,Xk,Xl,Xm,Xn,Xo,Xp,Xs,Xt,Xu,Xv,Xw,Xx,Xy,Xz,X0,X1,X2,X3,X4,X5,X6,X7,X8,Wa,Wb,Wc,Wf,Wg,Wh,Wi,Wj,Wl,Wm,Wn,Wo,Wp,Wq,Wr,Ws,Wt,Wu,Wv,Ww,Wx,Wy,Wz,W0,W3,W4,W5,W6,W7,W8,W9,Ya,Yb,Yc,Yj,Yk,Yl,Ym,Yn,Yo,Yp,Yq,Yr,Ys,Yt,Yu,Yv,Yw,Yx,Yy,Yz,Y0,Y1,Y2,Y3,Y4,Y5,Y6,Y7,Y8,Y9,Va,Vb,Vc,Vd,Ve,Vf,Vg,Vh,Vi,Vj,Vk,Vl,Vm,Vn,Vo,Vp,Vq,Vr,Vs,Vt,Vu,Vv,Vw,Vx,Vy,Vz,V0,V1,V2,V3,V4,V5,V6,V7,V8,V9,Ua,Ub,Uc,Ud,Ue,Uf,Ug,Uh,Ui,Uj,Uk,Ul,Um,Un,Uo,Up,Us,Ut,Uu,Uv,Uw,Ux,Uy,Uz,U0,U1,U2,U3,U4,U5,U6,U7,U8,U9,Ka,Kb,Kc,Kd,Ke,Kf,Kg,Kh,Ki,Kj,Kk,Kl,Km,Kn,Ko,Kq,Kr,Ks,Kt,Ku,Kx,K1,K2,K3,K4,K5,K6,K7,K8,K9,Ga,Gx,Hd,Hb,Gq,Gp,Pg,Sn,tab64]
   tactic =>
    try simp only [Gl] at *
    try simp only [nc2] at *
    try simp (maxSteps := 4000000) only [G4]
    repeat' (first | with_reducible assumption | with_reducible refine And.intro ?_ ?_ | intro _ | omega | (rw [Gb]; omega))
    refine T0 (bc := L2) ⟨l, ⟨ks, vs⟩, i, []⟩ [3, 4, 7, 8, 9] ⟨hf, hP, hi, ⟨List.nodup_nil, fun x hx => by cases hx⟩, by show l.length < 21 + 0; omega⟩ rfl (by simp) (by rw [hp2]; rfl) ?_ ?_ ?_
    · show Hj _ _ (T5 l ⟨ks, vs⟩ []) _
      rw [Bx]
      simp [Hj,lk,rnO,rnA,rnAs,rk]
      rfl
    · show N8 (List.drop (T5 l ⟨ks, vs⟩ []).length _) _
      rw [Bx]
      simp [N8,lk]
    (sym =>
     simp [hp2,led_1A_res,Bx,bctx_led_t,bctx_led_c,bctx_led_d,bctx_led_b,bctx_led_u,bctx_led_w,Za,Zb,Zc,Ze,Zf,Zg,Zn,Zo,Zp,Zq,Zr,Zs,Zu,Zv,Zw,Z7,Z8,Z9,Qa,Qb,Qc,Qd,Qe,Qf,Qg,Qi,Qj,Ql,Qm,Qn,Qo,Qq,Qr,Qs,Qt,Qu,Qv,Qw,Qx,Qy,Qz,Q3,Q4,Q5,Ja,Jc,Jd,Je,Jf,Jg,Jh,Ji,Jj,Jk,Jl,Jm,Jn,Js,Jt,Jz,J0,Xd,Xe,Xf,Xg,Xh,Xi,Xj,Xk,Xl,Xm,Xn,Xo,Xp,Xs,Xt,Xu,Xv,Xw,Xx,Xy,Xz,X0,X1,X2,X3,X4,X5,X6,X7,X8,Wa,Wb,Wc,Wf,Wg,Wh,Wi,Wj,Wl,Wm,Wn,Wo,Wp,Wq,Wr,Ws,Wt,Wu,Wv,Ww,Wx,Wy,Wz,W0,W3,W4,W5,W6,W7,W8,W9,Ya,Yb,Yc,Yj,Yk,Yl,Ym,Yn,Yo,Yp,Yq,Yr,Ys,Yt,Yu,Yv,Yw,Yx,Yy,Yz,Y0,Y1,Y2,Y3,Y4,Y5,Y6,Y7,Y8,Y9,Va,Vb,Vc,Vd,Ve,Vf,Vg,Vh,Vi,Vj,Vk,Vl,Vm,Vn,Vo,Vp,Vq,Vr,Vs,Vt,Vu,Vv,Vw,Vx,Vy,Vz,V0,V1,V2,V3,V4,V5,V6,V7,V8,V9,Ua,Ub,Uc,Ud,Ue,Uf,Ug,Uh,Ui,Uj,Uk,Ul,Um,Un,Uo,Up,Us,Ut,Uu,Uv,Uw,Ux,Uy,Uz,U0,U1,U2,U3,U4,U5,U6,U7,U8,U9,Ka,Kb,Kc,Kd,Ke,Kf,Kg,Kh,Ki,Kj,Kk,Kl,Km,Kn,Ko,Kq,Kr,Ks,Kt,Ku,Kx,K1,K2,K3,K4,K5,K6,K7,K8,K9,Ga,Gx,Hd,Hb,Gq,Gp,Pg,Sn,tab64]
     tactic =>
      try simp only [Gl] at *
      try simp only [nc2] at *
      try simp (maxSteps := 4000000) only [hp2,led_1A_res,Bx,G4]
      repeat' (first | with_reducible assumption | with_reducible refine And.intro ?_ ?_ | intro _ | omega | (rw [Gb]; omega))
      refine ⟨[9], by simp, rfl, fun j hj => by omega, ?_⟩
      simp [Hj,lk,rnO,rnA,rnAs,rk]))
end Go.Am.Graph
set_option linter.unusedSimpArgs false
set_option linter.unusedVariables false
set_option maxHeartbeats 2000000
namespace Go.Am.Graph
open Go.Proofs Go.Shelf Go.RowKit
def rhoKS : Ren := ⟨fun x => if x = 7 then 22 else if x = 10 then 36 else x, fun x => if x = 23 then 41 else if x = 26 then 9 else if x = 27 then 46 else if x = 28 then 47 else if x = 33 then 51 else x, fun x => x⟩
theorem bKS7 : Bears Try.prog (rhoKS.f 7) (SlBodyZ.n7 rhoKS) := ⟨"maps.Keys[map[string]int,string,int]", by decide, by show Try.prog.funcs[22]? = _; rw [Try.func22]; kernel_rfl⟩
theorem bKS10 : Bears Try.prog (rhoKS.f 10) (SlBodyZ.n10 rhoKS) := ⟨"maps.Keys[map[string]int,string,int]$1", by decide, by show Try.prog.funcs[36]? = _; rw [Try.func36]; kernel_rfl⟩
theorem bKSL : SlLaysZ.n7 Try.prog rhoKS := ⟨by kernel_rfl, bKS7, bKS10, Try.underlying0, Try.isAgg0, Try.sizeOf0, Try.zeroValue0, Try.underlying4, Try.isAgg4, Try.sizeOf4, Try.zeroValue4, Try.underlying41, Try.isAgg41, Try.sizeOf41, Try.zeroValue41, Try.underlying9, Try.isAgg9, Try.sizeOf9, Try.zeroValue9, Try.underlying46, Try.isAgg46, Try.sizeOf46, Try.zeroValue46, Try.underlying47, Try.isAgg47, Try.sizeOf47, Try.zeroValue47, Try.underlying51, Try.isAgg51, Try.sizeOf51, Try.zeroValue51⟩
def rhoSS : Ren := ⟨fun x => if x = 6 then 21 else if x = 8 then 34 else if x = 9 then 35 else if x = 11 then 41 else x, fun x => if x = 24 then 30 else if x = 26 then 9 else if x = 28 then 47 else if x = 33 then 51 else x, fun x => x⟩
theorem bSS6 : Bears Try.prog (rhoSS.f 6) (SlBodyZ.n6 rhoSS) := ⟨"slices.Sorted[string]", by decide, by show Try.prog.funcs[21]? = _; rw [Try.func21]; kernel_rfl⟩
theorem bSS8 : Bears Try.prog (rhoSS.f 8) (SlBodyZ.n8 rhoSS) := ⟨"slices.Collect[string]", by decide, by show Try.prog.funcs[34]? = _; rw [Try.func34]; kernel_rfl⟩
theorem bSS11 : Bears Try.prog (rhoSS.f 11) (SlBodyZ.n11 rhoSS) := ⟨"slices.AppendSeq[[]string,string]", by decide, by show Try.prog.funcs[41]? = _; rw [Try.func41]; kernel_rfl⟩
theorem bSSL : SlLaysZ.n6 Try.prog rhoSS := ⟨by kernel_rfl, bSS6, bSS8, bSS11, Try.underlying0, Try.isAgg0, Try.sizeOf0, Try.zeroValue0, Try.underlying30, Try.isAgg30, Try.sizeOf30, Try.zeroValue30, Try.underlying9, Try.isAgg9, Try.sizeOf9, Try.zeroValue9, Try.underlying47, Try.isAgg47, Try.sizeOf47, Try.zeroValue47, by kernel_rfl⟩
def Mk : Ren := ⟨fun x => if x = 6 then 35 else if x = 8 then 43 else if x = 9 then 42 else if x = 19 then 55 else if x = 20 then 56 else if x = 21 then 46 else if x = 22 then 47 else if x = 23 then 48 else if x = 24 then 49 else if x = 25 then 50 else if x = 26 then 51 else if x = 27 then 52 else if x = 28 then 53 else if x = 29 then 54 else if x = 31 then 67 else if x = 32 then 68 else if x = 36 then 66 else if x = 37 then 69 else if x = 38 then 70 else if x = 39 then 71 else if x = 41 then 76 else x, fun x => if x = 26 then 30 else if x = 27 then 30 else if x = 29 then 9 else if x = 32 then 70 else if x = 35 then 74 else if x = 36 then 75 else if x = 41 then 62 else if x = 44 then 82 else if x = 46 then 84 else if x = 53 then 91 else if x = 57 then 95 else if x = 63 then 99 else if x = 64 then 100 else x, fun x => x⟩
theorem bMS6 : Bears Try.prog (Mk.f 6) (SlBodyM.n6 Mk) := ⟨"slices.Sort[[]string,string]", by decide, by show Try.prog.funcs[35]? = _; rw [Try.func35]; kernel_rfl⟩
theorem bMS8 : Try.prog.funcs[Mk.f 8]? = some (SlBodyM.n8 Mk) := by show Try.prog.funcs[43]? = _; rw [Try.func43]; kernel_rfl
theorem bMS9 : Bears Try.prog (Mk.f 9) (SlBodyM.n9 Mk) := ⟨"slices.pdqsortOrdered[string]", by decide, by show Try.prog.funcs[42]? = _; rw [Try.func42]; kernel_rfl⟩
theorem bMS19 : Try.prog.funcs[Mk.f 19]? = some (SlBodyM.n19 Mk) := by show Try.prog.funcs[55]? = _; rw [Try.func55]; kernel_rfl
theorem bMS20 : Try.prog.funcs[Mk.f 20]? = some (SlBodyM.n20 Mk) := by show Try.prog.funcs[56]? = _; rw [Try.func56]; kernel_rfl
theorem bMS21 : Bears Try.prog (Mk.f 21) (SlBodyM.n21 Mk) := ⟨"slices.insertionSortOrdered[string]", by decide, by show Try.prog.funcs[46]? = _; rw [Try.func46]; kernel_rfl⟩
theorem bMS22 : Bears Try.prog (Mk.f 22) (SlBodyM.n22 Mk) := ⟨"slices.heapSortOrdered[string]", by decide, by show Try.prog.funcs[47]? = _; rw [Try.func47]; kernel_rfl⟩
theorem bMS23 : Bears Try.prog (Mk.f 23) (SlBodyM.n23 Mk) := ⟨"slices.breakPatternsOrdered[string]", by decide, by show Try.prog.funcs[48]? = _; rw [Try.func48]; kernel_rfl⟩
theorem bMS24 : Bears Try.prog (Mk.f 24) (SlBodyM.n24 Mk) := ⟨"slices.choosePivotOrdered[string]", by decide, by show Try.prog.funcs[49]? = _; rw [Try.func49]; kernel_rfl⟩
theorem bMS25 : Bears Try.prog (Mk.f 25) (SlBodyM.n25 Mk) := ⟨"slices.reverseRangeOrdered[string]", by decide, by show Try.prog.funcs[50]? = _; rw [Try.func50]; kernel_rfl⟩
theorem bMS26 : Bears Try.prog (Mk.f 26) (SlBodyM.n26 Mk) := ⟨"slices.partialInsertionSortOrdered[string]", by decide, by show Try.prog.funcs[51]? = _; rw [Try.func51]; kernel_rfl⟩
theorem bMS27 : Bears Try.prog (Mk.f 27) (SlBodyM.n27 Mk) := ⟨"cmp.Less[string]", by decide, by show Try.prog.funcs[52]? = _; rw [Try.func52]; kernel_rfl⟩
theorem bMS28 : Bears Try.prog (Mk.f 28) (SlBodyM.n28 Mk) := ⟨"slices.partitionEqualOrdered[string]", by decide, by show Try.prog.funcs[53]? = _; rw [Try.func53]; kernel_rfl⟩
theorem bMS29 : Bears Try.prog (Mk.f 29) (SlBodyM.n29 Mk) := ⟨"slices.partitionOrdered[string]", by decide, by show Try.prog.funcs[54]? = _; rw [Try.func54]; kernel_rfl⟩
theorem bMS31 : Try.prog.funcs[Mk.f 31]? = some (SlBodyM.n31 Mk) := by show Try.prog.funcs[67]? = _; rw [Try.func67]; kernel_rfl
theorem bMS32 : Try.prog.funcs[Mk.f 32]? = some (SlBodyM.n32 Mk) := by show Try.prog.funcs[68]? = _; rw [Try.func68]; kernel_rfl
theorem bMS36 : Bears Try.prog (Mk.f 36) (SlBodyM.n36 Mk) := ⟨"slices.siftDownOrdered[string]", by decide, by show Try.prog.funcs[66]? = _; rw [Try.func66]; kernel_rfl⟩
theorem bMS37 : Bears Try.prog (Mk.f 37) (SlBodyM.n37 Mk) := ⟨"slices.medianAdjacentOrdered[string]", by decide, by show Try.prog.funcs[69]? = _; rw [Try.func69]; kernel_rfl⟩
theorem bMS38 : Bears Try.prog (Mk.f 38) (SlBodyM.n38 Mk) := ⟨"slices.medianOrdered[string]", by decide, by show Try.prog.funcs[70]? = _; rw [Try.func70]; kernel_rfl⟩
theorem bMS39 : Bears Try.prog (Mk.f 39) (SlBodyM.n39 Mk) := ⟨"cmp.isNaN[string]", by decide, by show Try.prog.funcs[71]? = _; rw [Try.func71]; kernel_rfl⟩
theorem bMS41 : Bears Try.prog (Mk.f 41) (SlBodyM.n41 Mk) := ⟨"slices.order2Ordered[string]", by decide, by show Try.prog.funcs[76]? = _; rw [Try.func76]; kernel_rfl⟩
theorem bMSL : SlLaysM.n6 Try.prog Mk := ⟨by kernel_rfl, bMS6, bMS8, bMS9, bMS19, bMS20, bMS21, bMS22, bMS23, bMS24, bMS25, bMS26, bMS27, bMS28, bMS29, bMS31, bMS32, bMS36, bMS37, bMS38, bMS39, bMS41, Try.underlying0, Try.isAgg0, Try.sizeOf0, Try.zeroValue0, Try.underlying3, Try.isAgg3, Try.sizeOf3, Try.zeroValue3, Try.underlying4, Try.isAgg4, Try.sizeOf4, Try.zeroValue4, Try.underlying5, Try.isAgg5, Try.sizeOf5, Try.zeroValue5, Try.underlying9, Try.isAgg9, Try.sizeOf9, Try.zeroValue9, Try.underlying30, Try.isAgg30, Try.sizeOf30, Try.zeroValue30, Try.underlying30, Try.isAgg30, Try.sizeOf30, Try.zeroValue30, Try.underlying9, Try.isAgg9, Try.sizeOf9, Try.zeroValue9, Try.underlying70, Try.isAgg70, Try.sizeOf70, Try.zeroValue70, Try.underlying74, Try.isAgg74, Try.sizeOf74, Try.zeroValue74, Try.underlying75, Try.isAgg75, Try.sizeOf75, Try.zeroValue75, Try.underlying62, Try.isAgg62, Try.sizeOf62, Try.zeroValue62, Try.underlying82, Try.isAgg82, Try.sizeOf82, Try.zeroValue82, Try.underlying84, Try.isAgg84, Try.sizeOf84, Try.zeroValue84, Try.underlying91, Try.isAgg91, Try.sizeOf91, Try.zeroValue91, Try.underlying95, Try.isAgg95, Try.sizeOf95, Try.zeroValue95, Try.underlying99, Try.isAgg99, Try.sizeOf99, Try.zeroValue99, Try.underlying100, Try.isAgg100, Try.sizeOf100, Try.zeroValue100⟩
def rhoKI : Ren := ⟨fun x => if x = 7 then 33 else if x = 10 then 40 else x, fun x => if x = 3 then 4 else if x = 23 then 53 else if x = 26 then 3 else if x = 27 then 59 else if x = 28 then 60 else if x = 33 then 66 else x, fun x => x⟩
theorem bKI7 : Bears Try.prog (rhoKI.f 7) (SlBodyZ.n7 rhoKI) := ⟨"maps.Keys[map[int]bool,int,bool]", by decide, by show Try.prog.funcs[33]? = _; rw [Try.func33]; kernel_rfl⟩
theorem bKI10 : Bears Try.prog (rhoKI.f 10) (SlBodyZ.n10 rhoKI) := ⟨"maps.Keys[map[int]bool,int,bool]$1", by decide, by show Try.prog.funcs[40]? = _; rw [Try.func40]; kernel_rfl⟩
theorem bKIL : SlLaysZI.n7 Try.prog rhoKI := ⟨by kernel_rfl, bKI7, bKI10, Try.underlying0, Try.isAgg0, Try.sizeOf0, Try.zeroValue0, Try.underlying4, Try.isAgg4, Try.sizeOf4, Try.zeroValue4, Try.underlying53, Try.isAgg53, Try.sizeOf53, Try.zeroValue53, Try.underlying3, Try.isAgg3, Try.sizeOf3, Try.zeroValue3, Try.underlying59, Try.isAgg59, Try.sizeOf59, Try.zeroValue59, Try.underlying60, Try.isAgg60, Try.sizeOf60, Try.zeroValue60, Try.underlying66, Try.isAgg66, Try.sizeOf66, Try.zeroValue66⟩
def rhoSI : Ren := ⟨fun x => if x = 6 then 32 else if x = 8 then 38 else if x = 9 then 39 else if x = 11 then 44 else x, fun x => if x = 24 then 25 else if x = 26 then 3 else if x = 28 then 60 else if x = 33 then 66 else x, fun x => x⟩
theorem bSI6 : Bears Try.prog (rhoSI.f 6) (SlBodyZ.n6 rhoSI) := ⟨"slices.Sorted[int]", by decide, by show Try.prog.funcs[32]? = _; rw [Try.func32]; kernel_rfl⟩
theorem bSI8 : Bears Try.prog (rhoSI.f 8) (SlBodyZ.n8 rhoSI) := ⟨"slices.Collect[int]", by decide, by show Try.prog.funcs[38]? = _; rw [Try.func38]; kernel_rfl⟩
theorem bSI11 : Bears Try.prog (rhoSI.f 11) (SlBodyZ.n11 rhoSI) := ⟨"slices.AppendSeq[[]int,int]", by decide, by show Try.prog.funcs[44]? = _; rw [Try.func44]; kernel_rfl⟩
theorem bSIL : SlLaysZI.n6 Try.prog rhoSI := ⟨by kernel_rfl, bSI6, bSI8, bSI11, Try.underlying0, Try.isAgg0, Try.sizeOf0, Try.zeroValue0, Try.underlying25, Try.isAgg25, Try.sizeOf25, Try.zeroValue25, Try.underlying3, Try.isAgg3, Try.sizeOf3, Try.zeroValue3, Try.underlying60, Try.isAgg60, Try.sizeOf60, Try.zeroValue60, by kernel_rfl⟩
def Ml : Ren := ⟨fun x => if x = 5 then 39 else if x = 7 then 45 else if x = 8 then 43 else if x = 10 then 57 else if x = 11 then 58 else if x = 12 then 59 else if x = 13 then 60 else if x = 14 then 61 else if x = 15 then 62 else if x = 16 then 63 else if x = 17 then 64 else if x = 18 then 65 else if x = 19 then 55 else if x = 20 then 56 else if x = 30 then 72 else if x = 31 then 67 else if x = 32 then 68 else if x = 33 then 73 else if x = 34 then 74 else if x = 35 then 75 else if x = 40 then 77 else x, fun x => if x = 22 then 25 else if x = 23 then 25 else if x = 25 then 3 else if x = 32 then 70 else if x = 35 then 74 else if x = 36 then 75 else if x = 41 then 62 else if x = 44 then 82 else if x = 46 then 84 else if x = 53 then 91 else if x = 57 then 95 else if x = 63 then 99 else if x = 64 then 100 else x, fun x => x⟩
theorem bMI5 : Bears Try.prog (Ml.f 5) (SlBodyM.n5 Ml) := ⟨"slices.Sort[[]int,int]", by decide, by show Try.prog.funcs[39]? = _; rw [Try.func39]; kernel_rfl⟩
theorem bMI7 : Bears Try.prog (Ml.f 7) (SlBodyM.n7 Ml) := ⟨"slices.pdqsortOrdered[int]", by decide, by show Try.prog.funcs[45]? = _; rw [Try.func45]; kernel_rfl⟩
theorem bMI8 : Try.prog.funcs[Ml.f 8]? = some (SlBodyM.n8 Ml) := by show Try.prog.funcs[43]? = _; rw [Try.func43]; kernel_rfl
theorem bMI10 : Bears Try.prog (Ml.f 10) (SlBodyM.n10 Ml) := ⟨"slices.insertionSortOrdered[int]", by decide, by show Try.prog.funcs[57]? = _; rw [Try.func57]; kernel_rfl⟩
theorem bMI11 : Bears Try.prog (Ml.f 11) (SlBodyM.n11 Ml) := ⟨"slices.heapSortOrdered[int]", by decide, by show Try.prog.funcs[58]? = _; rw [Try.func58]; kernel_rfl⟩
theorem bMI12 : Bears Try.prog (Ml.f 12) (SlBodyM.n12 Ml) := ⟨"slices.breakPatternsOrdered[int]", by decide, by show Try.prog.funcs[59]? = _; rw [Try.func59]; kernel_rfl⟩
theorem bMI13 : Bears Try.prog (Ml.f 13) (SlBodyM.n13 Ml) := ⟨"slices.choosePivotOrdered[int]", by decide, by show Try.prog.funcs[60]? = _; rw [Try.func60]; kernel_rfl⟩
theorem bMI14 : Bears Try.prog (Ml.f 14) (SlBodyM.n14 Ml) := ⟨"slices.reverseRangeOrdered[int]", by decide, by show Try.prog.funcs[61]? = _; rw [Try.func61]; kernel_rfl⟩
theorem bMI15 : Bears Try.prog (Ml.f 15) (SlBodyM.n15 Ml) := ⟨"slices.partialInsertionSortOrdered[int]", by decide, by show Try.prog.funcs[62]? = _; rw [Try.func62]; kernel_rfl⟩
theorem bMI16 : Bears Try.prog (Ml.f 16) (SlBodyM.n16 Ml) := ⟨"cmp.Less[int]", by decide, by show Try.prog.funcs[63]? = _; rw [Try.func63]; kernel_rfl⟩
theorem bMI17 : Bears Try.prog (Ml.f 17) (SlBodyM.n17 Ml) := ⟨"slices.partitionEqualOrdered[int]", by decide, by show Try.prog.funcs[64]? = _; rw [Try.func64]; kernel_rfl⟩
theorem bMI18 : Bears Try.prog (Ml.f 18) (SlBodyM.n18 Ml) := ⟨"slices.partitionOrdered[int]", by decide, by show Try.prog.funcs[65]? = _; rw [Try.func65]; kernel_rfl⟩
theorem bMI19 : Try.prog.funcs[Ml.f 19]? = some (SlBodyM.n19 Ml) := by show Try.prog.funcs[55]? = _; rw [Try.func55]; kernel_rfl
theorem bMI20 : Try.prog.funcs[Ml.f 20]? = some (SlBodyM.n20 Ml) := by show Try.prog.funcs[56]? = _; rw [Try.func56]; kernel_rfl
theorem bMI30 : Bears Try.prog (Ml.f 30) (SlBodyM.n30 Ml) := ⟨"slices.siftDownOrdered[int]", by decide, by show Try.prog.funcs[72]? = _; rw [Try.func72]; kernel_rfl⟩
theorem bMI31 : Try.prog.funcs[Ml.f 31]? = some (SlBodyM.n31 Ml) := by show Try.prog.funcs[67]? = _; rw [Try.func67]; kernel_rfl
theorem bMI32 : Try.prog.funcs[Ml.f 32]? = some (SlBodyM.n32 Ml) := by show Try.prog.funcs[68]? = _; rw [Try.func68]; kernel_rfl
theorem bMI33 : Bears Try.prog (Ml.f 33) (SlBodyM.n33 Ml) := ⟨"slices.medianAdjacentOrdered[int]", by decide, by show Try.prog.funcs[73]? = _; rw [Try.func73]; kernel_rfl⟩
theorem bMI34 : Bears Try.prog (Ml.f 34) (SlBodyM.n34 Ml) := ⟨"slices.medianOrdered[int]", by decide, by show Try.prog.funcs[74]? = _; rw [Try.func74]; kernel_rfl⟩
theorem bMI35 : Bears Try.prog (Ml.f 35) (SlBodyM.n35 Ml) := ⟨"cmp.isNaN[int]", by decide, by show Try.prog.funcs[75]? = _; rw [Try.func75]; kernel_rfl⟩
theorem bMI40 : Bears Try.prog (Ml.f 40) (SlBodyM.n40 Ml) := ⟨"slices.order2Ordered[int]", by decide, by show Try.prog.funcs[77]? = _; rw [Try.func77]; kernel_rfl⟩
theorem bMIL : SlLaysM.n5 Try.prog Ml := ⟨by kernel_rfl, bMI5, bMI7, bMI8, bMI10, bMI11, bMI12, bMI13, bMI14, bMI15, bMI16, bMI17, bMI18, bMI19, bMI20, bMI30, bMI31, bMI32, bMI33, bMI34, bMI35, bMI40, Try.underlying0, Try.isAgg0, Try.sizeOf0, Try.zeroValue0, Try.underlying3, Try.isAgg3, Try.sizeOf3, Try.zeroValue3, Try.underlying4, Try.isAgg4, Try.sizeOf4, Try.zeroValue4, Try.underlying5, Try.isAgg5, Try.sizeOf5, Try.zeroValue5, Try.underlying9, Try.isAgg9, Try.sizeOf9, Try.zeroValue9, Try.underlying25, Try.isAgg25, Try.sizeOf25, Try.zeroValue25, Try.underlying25, Try.isAgg25, Try.sizeOf25, Try.zeroValue25, Try.underlying3, Try.isAgg3, Try.sizeOf3, Try.zeroValue3, Try.underlying70, Try.isAgg70, Try.sizeOf70, Try.zeroValue70, Try.underlying74, Try.isAgg74, Try.sizeOf74, Try.zeroValue74, Try.underlying75, Try.isAgg75, Try.sizeOf75, Try.zeroValue75, Try.underlying62, Try.isAgg62, Try.sizeOf62, Try.zeroValue62, Try.underlying82, Try.isAgg82, Try.sizeOf82, Try.zeroValue82, Try.underlying84, Try.isAgg84, Try.sizeOf84, Try.zeroValue84, Try.underlying91, Try.isAgg91, Try.sizeOf91, Try.zeroValue91, Try.underlying95, Try.isAgg95, Try.sizeOf95, Try.zeroValue95, Try.underlying99, Try.isAgg99, Try.sizeOf99, Try.zeroValue99, Try.underlying100, Try.isAgg100, Try.sizeOf100, Try.zeroValue100⟩
end Go.Am.Graph
set_option linter.unusedSimpArgs false
set_option linter.unusedVariables false
set_option maxHeartbeats 2000000
namespace Go.Am.Graph
open Go.Proofs Go.Shelf Go.RowKit Go.Maps Go.Sort
open Enc (enc dec)
theorem row_told {w w' : World} {m : Nat → Nat} {t n : Nat} {v : Value} {xs : List Value} {l : List D} (hrow : w'.ownsRow w.heap.size t 1 v n xs) (hn : n = l.length) (hR : ∀ F : Fix, RE F 1 l xs) (hnew : ∀ b, w.heap.size ≤ b → m b = 0) (hsz : w.heap.size ≤ w'.heap.size) :
    ∃ m' : Nat → Nat, (∀ b, b < w.heap.size → m' b = m b) ∧ (∀ b, w'.heap.size ≤ b → m' b = 0) ∧ R ⟨w', m'⟩ (.list 1 l) v := by
  subst hn
  rcases hrow.2 with ⟨rfl, h0⟩ | ⟨g, cap, cur, rfl, hb, hg, h1, h2, h3, h4⟩
  · have hl : l = [] := List.eq_nil_of_length_eq_zero h0
    subst hl
    refine ⟨m, fun _ _ => rfl, fun b hb => hnew b (by omega), ?_⟩
    simp only [R]
    exact ⟨none, 0, rfl, Nat.le_refl _, Nat.zero_le _, by simp⟩
  · have hgl : g < w'.heap.size := (Array.getElem?_eq_some_iff.1 hg).1
    refine ⟨fun k => if k = g then l.length else m k, fun b hb' => ?_, fun b hb' => ?_, ?_⟩
    · simp only [if_neg (show b ≠ g by omega)]
    · simp only [if_neg (show b ≠ g by omega)]
      exact hnew b (by omega)
    · simp only [R]
      refine ⟨_, cap, rfl, h1, h2, fun _ => ⟨g, 0, _, rfl, hR _, ?_⟩⟩
      have hl := RE.length (hR ⟨w', m⟩)
      refine ⟨by simp [hl], fun j u hj => ?_⟩
      rw [Nat.zero_add]
      rw [← h4] at hj
      rw [List.getElem?_take] at hj
      split at hj
      · simp only [World.cell?, hg]
        simpa using hj
      · cases hj
structure ItS where
  m : MS
instance encItS : Enc ItS := ⟨fun a => .it 36 (a.m.ks.map enc) (a.m.vs.map enc), fun x => match x with
  | .it _ a b => ⟨⟨a.map dec, b.map dec⟩⟩
  | _ => ⟨⟨[], []⟩⟩, fun a => by
    obtain ⟨k, v⟩ := a
    simp only [List.map_map]
    have h1 : (dec ∘ enc : List UInt8 → List UInt8) = id := funext fun x => Enc.dec_enc x
    have h2 : (dec ∘ enc : Int → Int) = id := funext fun x => Enc.dec_enc x
    rw [h1, h2, List.map_id, List.map_id]⟩
structure MB where
  ks : List Int
  vs : List Bool
instance encMB : Enc MB := ⟨fun a => .map (a.ks.map enc) (a.vs.map enc), fun x => match x with
  | .map a b => ⟨a.map dec, b.map dec⟩
  | _ => ⟨[], []⟩, fun a => by
    obtain ⟨k, v⟩ := a
    simp only [List.map_map]
    have h1 : (dec ∘ enc : Int → Int) = id := funext fun x => Enc.dec_enc x
    have h2 : (dec ∘ enc : Bool → Bool) = id := funext fun x => Enc.dec_enc x
    rw [h1, h2, List.map_id, List.map_id]⟩
structure ItI where
  m : MB
instance encItI : Enc ItI := ⟨fun a => .it 40 (a.m.ks.map enc) (a.m.vs.map enc), fun x => match x with
  | .it _ a b => ⟨⟨a.map dec, b.map dec⟩⟩
  | _ => ⟨⟨[], []⟩⟩, fun a => by
    obtain ⟨k, v⟩ := a
    simp only [List.map_map]
    have h1 : (dec ∘ enc : Int → Int) = id := funext fun x => Enc.dec_enc x
    have h2 : (dec ∘ enc : Bool → Bool) = id := funext fun x => Enc.dec_enc x
    rw [h1, h2, List.map_id, List.map_id]⟩
theorem isE_MB {ks : List Int} {vs : List Bool} : isE MB (.map (ks.map enc) (vs.map enc)) = True := eq_true (Bo (⟨ks, vs⟩ : MB))
theorem dec_MB {ks : List Int} {vs : List Bool} : (dec (.map (ks.map enc) (vs.map enc)) : MB) = ⟨ks, vs⟩ := Enc.dec_enc (⟨ks, vs⟩ : MB)
theorem enc_ItS {a : ItS} : (enc a : D) = .it 36 (a.m.ks.map enc) (a.m.vs.map enc) := rfl
theorem enc_ItI {a : ItI} : (enc a : D) = .it 40 (a.m.ks.map enc) (a.m.vs.map enc) := rfl
theorem isE_ItS {ks : List (List UInt8)} {vs : List Int} : isE ItS (.it 36 (ks.map enc) (vs.map enc)) = True := eq_true (Bo (⟨⟨ks, vs⟩⟩ : ItS))
theorem isE_ItI {ks : List Int} {vs : List Bool} : isE ItI (.it 40 (ks.map enc) (vs.map enc)) = True := eq_true (Bo (⟨⟨ks, vs⟩⟩ : ItI))
theorem dec_ItS {ks : List (List UInt8)} {vs : List Int} : (dec (.it 36 (ks.map enc) (vs.map enc)) : ItS) = ⟨⟨ks, vs⟩⟩ := Enc.dec_enc (⟨⟨ks, vs⟩⟩ : ItS)
theorem dec_ItI {ks : List Int} {vs : List Bool} : (dec (.it 40 (ks.map enc) (vs.map enc)) : ItI) = ⟨⟨ks, vs⟩⟩ := Enc.dec_enc (⟨⟨ks, vs⟩⟩ : ItI)
theorem res_d {F : Fix} {base : Nat} {pass : Nat → Prop} {x : D} {v : Value} (h : R F x v) : Res F base pass (.d x) v := by
  simp only [Res, Bn, CVR]
  refine ⟨⟨_, [], rfl, h, rfl⟩, fun k hk => ?_⟩
  simp [He] at hk
theorem it_told {w : World} {m : Nat → Nat} {f t : Nat} {ks vs : List D} {v : Value} (hv : R ⟨w, m⟩ (.map ks vs) v) (hnew : ∀ b, w.heap.size ≤ b → m b = 0) :
    ∃ m' : Nat → Nat, (∀ b, b < w.heap.size → m' b = m b) ∧ (∀ b, (w.alloc (.cells #[v] t)).heap.size ≤ b → m' b = 0) ∧ R ⟨w.alloc (.cells #[v] t), m'⟩ (.it f ks vs) (.func (.func f) #[] #[.pointer (some ⟨w.heap.size, 0, none⟩)]) := by
  simp only [R] at hv
  obtain ⟨b, es, c, rfl, h1, h2, h3, h4, h5⟩ := hv
  have hbl : b < w.heap.size := (Array.getElem?_eq_some_iff.1 h1).1
  have hle : Fix.le ⟨w, m⟩ ⟨w.alloc (.cells #[.map (some b)] t), fun k => if k = w.heap.size then 1 else m k⟩ := by
    refine ⟨fun k => ?_, fun k es' c' hk hkk => ?_⟩
    · by_cases hk : k = w.heap.size
      · have h0 := hnew k (by omega)
        refine ⟨by simp only; rw [h0]; exact Nat.zero_le _, fun off ho => by simp only at ho; omega⟩
      · refine ⟨by simp only [if_neg hk]; exact Nat.le_refl _, fun off ho => ?_⟩
        rcases Nat.lt_or_ge k w.heap.size with hlt | hge
        · exact World.cell?_of_block (Below.heap_alloc _ _ k hlt)
        · have := hnew k hge
          simp only at ho
          omega
    · have hlt : k < w.heap.size := (Array.getElem?_eq_some_iff.1 hkk).1
      exact (Below.heap_alloc _ _ k hlt).trans hkk
  refine ⟨fun k => if k = w.heap.size then 1 else m k, fun k hk => by simp only [if_neg (show k ≠ w.heap.size by omega)], fun k hk => ?_, ?_⟩
  · have hs : (w.alloc (.cells #[.map (some b)] t)).heap.size = w.heap.size + 1 := by simp
    rw [hs] at hk
    simp only [if_neg (show k ≠ w.heap.size by omega)]
    exact hnew k (by omega)
  · simp only [R]
    refine ⟨w.heap.size, b, es, c, rfl, by simp, by simp, (Below.heap_alloc _ _ b hbl).trans h1, ?_, Rs.mono hle h3, Rs.mono hle h4, h5⟩
    simp only [if_neg (show b ≠ w.heap.size by omega)]
    exact h2
def Py : Con := Oo (fun (_ : MS) => True) (fun m => ItS.mk m)
theorem good_KeysS : Ck Try.prog (22, Py) := by
  refine ⟨Hh Try.func22 (by kernel_rfl) rfl, ?_⟩
  intro m w cvs vs hpre hcv hnd hnew
  obtain ⟨a, rfl, -⟩ := St (id hpre : (Oo (fun (_ : MS) => True) (fun m => ItS.mk m)).pre cvs)
  simp only [Bn, CVR] at hcv
  obtain ⟨v, r, rfl, hv, rfl⟩ := hcv
  obtain ⟨m', q1, q2, q3⟩ := it_told (f := 36) (t := 41) (m := m) hv hnew
  have hm : ∃ b, v = .map (some b) := by
    have hv' := hv
    rw [Br] at hv'
    simp only [R] at hv'
    obtain ⟨b, _, _, e, _⟩ := hv'
    exact ⟨b, e⟩
  obtain ⟨b, rfl⟩ := hm
  have hk := (callsIn_wide (n := 5)).1 (AnyZ.keys_in bKSL Fence.wide 5 trivial rfl (some b) w)
  refine Calls.mono hk ?_
  rintro e w' ⟨rfl, rfl⟩
  have hb := (Below.refl w.heap.size w).alloc (Nat.le_refl _) (.cells #[.map (some b)] 41)
  exact ⟨_, m', rfl, ⟨hb.os, hb.tape, hb.output, hb.size, fun k hk _ => hb.block k hk⟩, fun b hb _ => q1 b hb, q2, by
    show Res _ _ _ (.d (enc (ItS.mk (dec (enc a) : MS)))) _
    rw [Enc.dec_enc]
    exact res_d q3⟩
def Cx : Con := Oo (fun (_ : MB) => True) (fun m => ItI.mk m)
theorem good_KeysI : Ck Try.prog (33, Cx) := by
  refine ⟨Hh Try.func33 (by kernel_rfl) rfl, ?_⟩
  intro m w cvs vs hpre hcv hnd hnew
  obtain ⟨a, rfl, -⟩ := St (id hpre : (Oo (fun (_ : MB) => True) (fun m => ItI.mk m)).pre cvs)
  simp only [Bn, CVR] at hcv
  obtain ⟨v, r, rfl, hv, rfl⟩ := hcv
  obtain ⟨m', q1, q2, q3⟩ := it_told (f := 40) (t := 53) (m := m) hv hnew
  have hm : ∃ b, v = .map (some b) := by
    have hv' := hv
    change R _ (.map _ _) _ at hv'
    simp only [R] at hv'
    obtain ⟨b, _, _, e, _⟩ := hv'
    exact ⟨b, e⟩
  obtain ⟨b, rfl⟩ := hm
  have hk := (callsIn_wide (n := 5)).1 (AnyZI.keys_in bKIL Fence.wide 5 trivial rfl (some b) w)
  refine Calls.mono hk ?_
  rintro e w' ⟨rfl, rfl⟩
  have hb := (Below.refl w.heap.size w).alloc (Nat.le_refl _) (.cells #[.map (some b)] 53)
  exact ⟨_, m', rfl, ⟨hb.os, hb.tape, hb.output, hb.size, fun k hk _ => hb.block k hk⟩, fun b hb _ => q1 b hb, q2, by
    show Res _ _ _ (.d (enc (ItI.mk (dec (enc a) : MB)))) _
    rw [Enc.dec_enc]
    exact res_d q3⟩
def Ou (l : List (List UInt8)) : List (List UInt8) := l.mergeSort fun x y => decide (x ≤ y)
def A7 (l : List Int) : List Int := l.mergeSort fun x y => decide (x ≤ y)
def nilR (_ : Value) : Option (DataW Unit × List MemPlace) := some (.nil, [])
theorem perm_of_keys {F : Fix} {P : Program} {k : TypeId} {es : List MapEntry} {α : Type} {f : α → Value} {g : Lit → α} {ks : List α} (hk : es.map MapEntry.key = ks.map f) (hr : ∀ x ∈ ks, ∃ kl, keyOf P k (f x) = some kl ∧ g kl = x) :
    ((es.map (WideElems.rg P k nilR)).map fun p => g p.1) = ks := by
  induction es generalizing ks with
  | nil => cases ks with
    | nil => rfl
    | cons x ks => simp at hk
  | cons e es ih =>
    cases ks with
    | nil => simp at hk
    | cons x ks =>
      simp only [List.map_cons, List.cons.injEq] at hk
      obtain ⟨kl, h1, h2⟩ := hr x (List.mem_cons_self ..)
      have e1 : WideElems.rg P k nilR e = (kl, .nil) := by
        refine WideElems.rg_of ?_
        obtain ⟨key, val, born⟩ := e
        simp only at hk
        rw [hk.1]
        exact WideElems.rd_mk (yv := (.nil, [])) h1 rfl
      rw [List.map_cons, List.map_cons, e1, ih hk.2 fun y hy => hr y (List.mem_cons_of_mem _ hy)]
      rw [← h2]
theorem fit_of_keys {P : Program} {k : TypeId} {es : Array MapEntry} {c : Nat} {α : Type} {f : α → Value} {ks : List α} (hsz : es.size ≤ maxLen) (hst : Go.MapKept.Stamped es c) (hk : es.toList.map MapEntry.key = ks.map f) (hr : ∀ x ∈ ks, ∃ kl, keyOf P k (f x) = some kl) : WideElems.Fit P k nilR es c := by
  refine ⟨hsz, hst, fun e he => ?_⟩
  have h1 : e.key ∈ ks.map f := by rw [← hk]; exact List.mem_map_of_mem he
  obtain ⟨x, hx, e1⟩ := List.mem_map.1 h1
  obtain ⟨kl, h2⟩ := hr x hx
  obtain ⟨key, val, born⟩ := e
  simp only at e1
  refine ⟨(kl, .nil), ?_⟩
  rw [← e1]
  exact WideElems.rd_mk (yv := (.nil, [])) h2 rfl
theorem Rs_S {F : Fix} : ∀ {ks : List (List UInt8)} {vs : List Value}, Rs F (ks.map enc) vs → vs = ks.map Go.Proofs.encStr
  | [], _, h => by simpa [Rs] using h
  | k :: ks, vs, h => by
    simp only [List.map_cons, Rs] at h
    obtain ⟨v, r, rfl, h1, h2⟩ := h
    rw [List.map_cons, ← Rs_S h2]
    rw [show v = Go.Proofs.encStr k from h1]
theorem Rs_I {F : Fix} : ∀ {ks : List Int} {vs : List Value}, Rs F (ks.map enc) vs → vs = ks.map Go.encZ
  | [], _, h => by simpa [Rs] using h
  | k :: ks, vs, h => by
    simp only [List.map_cons, Rs] at h
    obtain ⟨v, r, rfl, h1, h2⟩ := h
    rw [List.map_cons, ← Rs_I h2]
    rw [show v = Go.encZ k from h1]
theorem RE_S {F : Fix} : ∀ {ks : List (List UInt8)}, RE F 1 (ks.map enc) (ks.map Go.Proofs.encStr)
  | [] => rfl
  | k :: ks => by
    simp only [List.map_cons, RE]
    refine ⟨Go.Proofs.encStr k, ks.map Go.Proofs.encStr, rfl, rfl, fun u hu => ?_, rfl, RE_S⟩
    have : u = Go.Proofs.encStr k := by simpa [Value.cells, Go.Proofs.encStr] using hu
    subst this
    rfl
theorem RE_I {F : Fix} : ∀ {ks : List Int}, RE F 1 (ks.map enc) (ks.map Go.encZ)
  | [] => rfl
  | k :: ks => by
    simp only [List.map_cons, RE]
    refine ⟨Go.encZ k, ks.map Go.encZ, rfl, rfl, fun u hu => ?_, rfl, RE_I⟩
    have : u = Go.encZ k := by simpa [Value.cells, Go.encZ] using hu
    subst this
    rfl
theorem sortsS (m : Nat) : AnyZ.SortsIn Try.prog rhoSS Fence.wide m :=
  ⟨fun blk off cap ss W hH hblk hsz => callsIn_wide.2 (AnyM.slices_Sort_string bMSL blk off cap ss W hH hblk hsz),
   fun p cap W => callsIn_wide.2 (AnyM.slices_Sort_string_none bMSL p cap W)⟩
theorem sortsI (m : Nat) : AnyZI.SortsIn Try.prog rhoSI Fence.wide m :=
  ⟨fun blk off cap ss W hH hblk hsz => callsIn_wide.2 (AnyM.slices_Sort_int bMIL blk off cap ss W hH hblk hsz),
   fun p cap W => callsIn_wide.2 (AnyM.slices_Sort_int_none bMIL p cap W)⟩
def N9 : Con := Oo (fun (a : ItS) => a.m.ks.length ≤ 1000000 ∧ ∀ s ∈ a.m.ks, s.length ≤ 1000000) (fun a => Sl.mk (Ou a.m.ks))
theorem good_SortedS : Ck Try.prog (21, N9) := by
  refine ⟨Hh Try.func21 (by kernel_rfl) rfl, ?_⟩
  intro m w cvs vs hpre hcv hnd hnew
  change Con.pre N9 cvs at hpre
  unfold N9 at hpre
  obtain ⟨⟨⟨ks, us⟩⟩, rfl, hkl, hks⟩ := St hpre
  simp only at hkl hks
  simp only [Bn, CVR] at hcv
  obtain ⟨v, r, rfl, hv, rfl⟩ := hcv
  rw [enc_ItS] at hv
  simp only [R] at hv
  obtain ⟨bm, b, es, c, rfl, a1, a2, h1, h2, h3, h4, h5⟩ := hv
  have hkey := Rs_S h3
  have hread : ∀ x ∈ ks, ∃ kl, keyOf Try.prog 9 (Go.Proofs.encStr x) = some kl ∧ strOf kl = x := fun x hx => by
    refine ⟨_, WideMaps.keyOf_string_mk Try.underlying9 ?_, ?_⟩
    · have := hks x hx
      show x.toArray.size ≤ maxLen
      rw [List.size_toArray]
      unfold maxLen
      omega
    · show (x.toArray).toList = x
      simp
  have hes : es.size = ks.length := by
    have := congrArg List.length hkey
    simpa using this
  have hbl : bm < w.heap.size := by
    rcases Nat.lt_or_ge bm w.heap.size with h | h
    · exact h
    · have := hnew bm h
      omega
  have hown : w.ownsMap Try.prog 9 nilR b es.size (.map ((es.toList.map (WideElems.rg Try.prog 9 nilR)).foldr DataW.insert [])) :=
    ⟨es, c, h1, fit_of_keys (by rw [hes]; unfold maxLen; omega) h5 hkey (fun x hx => (hread x hx).imp fun kl h => h.1), Nat.le_refl _, rfl⟩
  have hsize : Maps.size (DataW.map ((es.toList.map (WideElems.rg Try.prog 9 nilR)).foldr DataW.insert [])) = ks.length := by
    rw [size_eq, length_read, hes]
  have hperm : (strKeys (DataW.map ((es.toList.map (WideElems.rg Try.prog 9 nilR)).foldr DataW.insert []))).Perm ks := by
    have := perm_of_keys (F := ⟨w, m⟩) (P := Try.prog) (k := 9) (g := strOf) hkey hread
    show (List.map (fun p : Lit × DataW Unit => strOf p.1) _).Perm ks
    refine List.Perm.trans ?_ (List.Perm.of_eq this)
    exact (Go.WideShapes.sorted_perm _).map _
  have hseq : SeqGives Fence.wide 2 Try.prog 36 #[.pointer (some ⟨bm, 0, none⟩)] Go.Proofs.encStr (fun ss => ss.Perm (strKeys _)) (Maps.size _) w :=
    AnyZ.keys_gives (ρ := rhoKS) { bKSL with } Fence.wide _ trivial rfl (by omega) bm b _ _ _ hbl a1 hown
  have cS := AnyZ.sorted_in bSSL Fence.wide 5 trivial trivial trivial trivial rfl (by omega) (sortsS _) (Hh Try.func35 (by kernel_rfl) rfl) 36 #[.pointer (some ⟨bm, 0, none⟩)] trivial (Hh Try.func36 (by kernel_rfl) rfl) _ _ (by rw [hsize]; unfold maxLen; omega) (by rw [hsize]; omega) _ hseq
  refine Calls.mono (callsIn_wide.1 cS) ?_
  rintro e w' ⟨v, ss, rfl, hp, hrow, hnil, hb⟩
  have hss : (ss.mergeSort fun x y => decide (x ≤ y)) = Ou ks := mergeSort_of_perm (hp.trans hperm)
  rw [hss] at hrow
  have hlen : ss.length = ((Ou ks).map (enc : List UInt8 → D)).length := by
    rw [List.length_map]
    unfold Ou
    rw [List.length_mergeSort, (hp.trans hperm).length_eq]
  obtain ⟨m', q1, q2, q3⟩ := row_told (m := m) hrow hlen (fun F => RE_S) hnew hb.size
  exact ⟨_, m', rfl, ⟨hb.os, hb.tape, hb.output, hb.size, fun k hk _ => hb.block k hk⟩, fun b hb _ => q1 b hb, q2, by
    show Res _ _ _ (.d (enc (Sl.mk (Ou (dec (enc (ItS.mk ⟨ks, us⟩)) : ItS).m.ks)))) _
    rw [Enc.dec_enc]
    exact res_d q3⟩
def Bi : Con := Oo (fun (a : ItI) => a.m.ks.length ≤ 1000000 ∧ ∀ s ∈ a.m.ks, 0 ≤ s ∧ s ≤ 1000000) (fun a => Sl.mk (A7 a.m.ks))
theorem good_SortedI : Ck Try.prog (32, Bi) := by
  refine ⟨Hh Try.func32 (by kernel_rfl) rfl, ?_⟩
  intro m w cvs vs hpre hcv hnd hnew
  change Con.pre Bi cvs at hpre
  unfold Bi at hpre
  obtain ⟨⟨⟨ks, us⟩⟩, rfl, hkl, hks⟩ := St hpre
  simp only at hkl hks
  simp only [Bn, CVR] at hcv
  obtain ⟨v, r, rfl, hv, rfl⟩ := hcv
  rw [enc_ItI] at hv
  simp only [R] at hv
  obtain ⟨bm, b, es, c, rfl, a1, a2, h1, h2, h3, h4, h5⟩ := hv
  have hkey := Rs_I h3
  have hread : ∀ x ∈ ks, ∃ kl, keyOf Try.prog 3 (Go.encZ x) = some kl ∧ Go.intOf kl = x := fun x hx => by
    refine ⟨_, keyOf_int_mk Try.underlying3 ?_, rfl⟩
    obtain ⟨g1, g2⟩ := hks x hx
    have w1 : IntKind.min .i64 = -9223372036854775808 := by decide
    have w2 : IntKind.max .i64 = 9223372036854775807 := by decide
    simp [Lit.wf,w1,w2]
    omega
  have hes : es.size = ks.length := by
    have := congrArg List.length hkey
    simpa using this
  have hbl : bm < w.heap.size := by
    rcases Nat.lt_or_ge bm w.heap.size with h | h
    · exact h
    · have := hnew bm h
      omega
  have hown : w.ownsMap Try.prog 3 nilR b es.size (.map ((es.toList.map (WideElems.rg Try.prog 3 nilR)).foldr DataW.insert [])) :=
    ⟨es, c, h1, fit_of_keys (by rw [hes]; unfold maxLen; omega) h5 hkey (fun x hx => (hread x hx).imp fun kl h => h.1), Nat.le_refl _, rfl⟩
  have hsize : Maps.size (DataW.map ((es.toList.map (WideElems.rg Try.prog 3 nilR)).foldr DataW.insert [])) = ks.length := by
    rw [size_eq, length_read, hes]
  have hperm : (intKeys (DataW.map ((es.toList.map (WideElems.rg Try.prog 3 nilR)).foldr DataW.insert []))).Perm ks := by
    have := perm_of_keys (F := ⟨w, m⟩) (P := Try.prog) (k := 3) (g := Go.intOf) hkey hread
    show (List.map (fun p : Lit × DataW Unit => Go.intOf p.1) _).Perm ks
    refine List.Perm.trans ?_ (List.Perm.of_eq this)
    exact (Go.WideShapes.sorted_perm _).map _
  have hseq : SeqGives Fence.wide 2 Try.prog 40 #[.pointer (some ⟨bm, 0, none⟩)] Go.encZ (fun ss => ss.Perm (intKeys _)) (Maps.size _) w :=
    AnyZI.keys_gives (ρ := rhoKI) { bKIL with } Fence.wide _ trivial rfl (by omega) bm b _ _ _ hbl a1 hown
  have cS := AnyZI.sorted_in bSIL Fence.wide 5 trivial trivial trivial trivial rfl (by omega) (sortsI _) (Hh Try.func39 (by kernel_rfl) rfl) 40 #[.pointer (some ⟨bm, 0, none⟩)] trivial (Hh Try.func40 (by kernel_rfl) rfl) _ _ (by rw [hsize]; unfold maxLen; omega) (by rw [hsize]; omega) _ hseq
  refine Calls.mono (callsIn_wide.1 cS) ?_
  rintro e w' ⟨v, ss, rfl, hp, hrow, hnil, hb⟩
  have hss : (ss.mergeSort fun x y => decide (x ≤ y)) = A7 ks := mergeSort_of_perm_i (hp.trans hperm)
  rw [hss] at hrow
  have hlen : ss.length = ((A7 ks).map (enc : Int → D)).length := by
    rw [List.length_map]
    unfold A7
    rw [List.length_mergeSort, (hp.trans hperm).length_eq]
  obtain ⟨m', q1, q2, q3⟩ := row_told (m := m) hrow hlen (fun F => RE_I) hnew hb.size
  exact ⟨_, m', rfl, ⟨hb.os, hb.tape, hb.output, hb.size, fun k hk _ => hb.block k hk⟩, fun b hb _ => q1 b hb, q2, by
    show Res _ _ _ (.d (enc (Sl.mk (A7 (dec (enc (ItI.mk ⟨ks, us⟩)) : ItI).m.ks)))) _
    rw [Enc.dec_enc]
    exact res_d q3⟩
end Go.Am.Graph
