/- Contracts of functions that the law reaches, and plain laws. Conditions: those that each contract states. -/
import Derived.Test.YtjmcmjfnbldifaaK2
import Derived.Test.YtjmcmjfnbldifaaChecked
import Derived.Lib.OthersKept
import Derived.WalkKit
import Derived.WalkSmall
import Derived.BigCall
set_option linter.unusedSimpArgs false
set_option linter.unusedVariables false
set_option maxHeartbeats 1000000
namespace Go.Am.Ty
open Go.Proofs
open Enc (enc dec)
def tt : List (Nat × TI) := [(2, ⟨.int .i64, 1, 8, .d (.int .i64 0), .int .i64 0, []⟩), (3, ⟨.int .i64, 1, 8, .d (.int .i64 0), .int .i64 0, []⟩), (4, ⟨.bool, 1, 1, .d (.bool false), .bool false, []⟩), (5, ⟨.int .u8, 1, 1, .d (.int .u8 0), .int .u8 0, []⟩), (9, ⟨.str, 1, 16, .d (.str []), .str [], []⟩), (21, ⟨.int .i32, 1, 4, .d (.int .i32 0), .int .i32 0, []⟩), (22, ⟨.slice 27, 1, 24, .nils 2, .list 2 [], []⟩), (23, ⟨.func, 1, 8, .d .nilf, .nilf, []⟩), (24, ⟨.slice 29, 1, 24, .nils 3, .list 3 [], []⟩), (25, ⟨.slice 29, 1, 24, .nils 3, .list 3 [], []⟩), (26, ⟨.struct [(0, 1), (1, 1)], 2, 32, .agg [.d (.int .i64 0), .nils 3], .agg [.int .i64 0, .list 3 []], []⟩), (27, ⟨.struct [(0, 1), (1, 1)], 2, 32, .agg [.d (.int .i64 0), .nils 3], .agg [.int .i64 0, .list 3 []], []⟩), (28, ⟨.struct [(0, 1), (1, 1), (2, 1)], 3, 32, .d (.agg [.int .i64 0, .str [], .int .i64 0]), .agg [.int .i64 0, .str [], .int .i64 0], [.int .i64, .str, .int .i64]⟩), (29, ⟨.struct [(0, 1), (1, 1), (2, 1)], 3, 32, .d (.agg [.int .i64 0, .str [], .int .i64 0]), .agg [.int .i64 0, .str [], .int .i64 0], [.int .i64, .str, .int .i64]⟩), (30, ⟨.func, 1, 8, .d .nilf, .nilf, []⟩), (31, ⟨.func, 1, 8, .d .nilf, .nilf, []⟩), (32, ⟨.func, 1, 8, .d .nilf, .nilf, []⟩), (33, ⟨.func, 1, 8, .d .nilf, .nilf, []⟩), (34, ⟨.func, 1, 8, .d .nilf, .nilf, []⟩), (35, ⟨.func, 1, 8, .d .nilf, .nilf, []⟩), (36, ⟨.slice 53, 1, 24, .nils 8, .list 8 [], []⟩), (37, ⟨.slice 53, 1, 24, .nils 8, .list 8 [], []⟩), (38, ⟨.func, 1, 8, .d .nilf, .nilf, []⟩), (39, ⟨.func, 1, 8, .d .nilf, .nilf, []⟩), (40, ⟨.func, 1, 8, .d .nilf, .nilf, []⟩), (41, ⟨.func, 1, 8, .d .nilf, .nilf, []⟩), (42, ⟨.func, 1, 8, .d .nilf, .nilf, []⟩), (43, ⟨.func, 1, 8, .d .nilf, .nilf, []⟩), (44, ⟨.func, 1, 8, .d .nilf, .nilf, []⟩), (45, ⟨.array 2 22, 2, 48, .agg [.nils 2, .nils 2], .agg [.list 2 [], .list 2 []], []⟩), (46, ⟨.func, 1, 8, .d .nilf, .nilf, []⟩), (47, ⟨.func, 1, 8, .d .nilf, .nilf, []⟩), (48, ⟨.func, 1, 8, .d .nilf, .nilf, []⟩), (49, ⟨.func, 1, 8, .d .nilf, .nilf, []⟩), (50, ⟨.func, 1, 8, .d .nilf, .nilf, []⟩), (51, ⟨.func, 1, 8, .d .nilf, .nilf, []⟩), (52, ⟨.struct [(0, 1), (1, 1), (2, 1), (3, 1), (4, 1), (5, 1), (6, 1), (7, 1)], 8, 120, .agg [.d (.int .i64 0), .d (.str []), .d (.str []), .d (.str []), .d (.int .i64 0), .d (.int .i64 0), .nils 3, .nils 3], .agg [.int .i64 0, .str [], .str [], .str [], .int .i64 0, .int .i64 0, .list 3 [], .list 3 []], []⟩), (53, ⟨.struct [(0, 1), (1, 1), (2, 1), (3, 1), (4, 1), (5, 1), (6, 1), (7, 1)], 8, 120, .agg [.d (.int .i64 0), .d (.str []), .d (.str []), .d (.str []), .d (.int .i64 0), .d (.int .i64 0), .nils 3, .nils 3], .agg [.int .i64 0, .str [], .str [], .str [], .int .i64 0, .int .i64 0, .list 3 [], .list 3 []], []⟩), (54, ⟨.func, 1, 8, .d .nilf, .nilf, []⟩), (55, ⟨.func, 1, 8, .d .nilf, .nilf, []⟩), (56, ⟨.func, 1, 8, .d .nilf, .nilf, []⟩), (57, ⟨.func, 1, 8, .d .nilf, .nilf, []⟩), (58, ⟨.func, 1, 8, .d .nilf, .nilf, []⟩), (59, ⟨.func, 1, 8, .d .nilf, .nilf, []⟩), (60, ⟨.func, 1, 8, .d .nilf, .nilf, []⟩), (61, ⟨.slice 3, 1, 24, .nils 1, .list 1 [], []⟩), (62, ⟨.func, 1, 8, .d .nilf, .nilf, []⟩), (63, ⟨.func, 1, 8, .d .nilf, .nilf, []⟩), (64, ⟨.map 3 25, 1, 8, .d .nilm, .nilm, []⟩), (67, ⟨.func, 1, 8, .d .nilf, .nilf, []⟩), (68, ⟨.func, 1, 8, .d .nilf, .nilf, []⟩), (69, ⟨.func, 1, 8, .d .nilf, .nilf, []⟩), (70, ⟨.func, 1, 8, .d .nilf, .nilf, []⟩), (71, ⟨.func, 1, 8, .d .nilf, .nilf, []⟩), (72, ⟨.func, 1, 8, .d .nilf, .nilf, []⟩), (73, ⟨.slice 9, 1, 24, .nils 1, .list 1 [], []⟩), (74, ⟨.func, 1, 8, .d .nilf, .nilf, []⟩), (75, ⟨.func, 1, 8, .d .nilf, .nilf, []⟩), (76, ⟨.func, 1, 8, .d .nilf, .nilf, []⟩), (77, ⟨.func, 1, 8, .d .nilf, .nilf, []⟩), (78, ⟨.func, 1, 8, .d .nilf, .nilf, []⟩), (79, ⟨.func, 1, 8, .d .nilf, .nilf, []⟩), (80, ⟨.slice 5, 1, 24, .nils 1, .list 1 [], []⟩), (81, ⟨.func, 1, 8, .d .nilf, .nilf, []⟩), (88, ⟨.int .u32, 1, 4, .d (.int .u32 0), .int .u32 0, []⟩)]
def tab : Nat → TI := lkT tt
theorem Az : tab 2 = ⟨.int .i64, 1, 8, .d (.int .i64 0), .int .i64 0, []⟩ := rfl
theorem Hg : tab 3 = ⟨.int .i64, 1, 8, .d (.int .i64 0), .int .i64 0, []⟩ := rfl
theorem Nf : tab 4 = ⟨.bool, 1, 1, .d (.bool false), .bool false, []⟩ := rfl
theorem tab5 : tab 5 = ⟨.int .u8, 1, 1, .d (.int .u8 0), .int .u8 0, []⟩ := rfl
theorem H3 : tab 9 = ⟨.str, 1, 16, .d (.str []), .str [], []⟩ := rfl
theorem tab21 : tab 21 = ⟨.int .i32, 1, 4, .d (.int .i32 0), .int .i32 0, []⟩ := rfl
theorem Md : tab 22 = ⟨.slice 27, 1, 24, .nils 2, .list 2 [], []⟩ := rfl
theorem Hc : tab 25 = ⟨.slice 29, 1, 24, .nils 3, .list 3 [], []⟩ := rfl
theorem Mc : tab 27 = ⟨.struct [(0, 1), (1, 1)], 2, 32, .agg [.d (.int .i64 0), .nils 3], .agg [.int .i64 0, .list 3 []], []⟩ := rfl
theorem Hb : tab 29 = ⟨.struct [(0, 1), (1, 1), (2, 1)], 3, 32, .d (.agg [.int .i64 0, .str [], .int .i64 0]), .agg [.int .i64 0, .str [], .int .i64 0], [.int .i64, .str, .int .i64]⟩ := rfl
theorem Nc : tab 37 = ⟨.slice 53, 1, 24, .nils 8, .list 8 [], []⟩ := rfl
theorem tab45 : tab 45 = ⟨.array 2 22, 2, 48, .agg [.nils 2, .nils 2], .agg [.list 2 [], .list 2 []], []⟩ := rfl
theorem tab48 : tab 48 = ⟨.func, 1, 8, .d .nilf, .nilf, []⟩ := rfl
theorem tab49 : tab 49 = ⟨.func, 1, 8, .d .nilf, .nilf, []⟩ := rfl
theorem H2 : tab 53 = ⟨.struct [(0, 1), (1, 1), (2, 1), (3, 1), (4, 1), (5, 1), (6, 1), (7, 1)], 8, 120, .agg [.d (.int .i64 0), .d (.str []), .d (.str []), .d (.str []), .d (.int .i64 0), .d (.int .i64 0), .nils 3, .nils 3], .agg [.int .i64 0, .str [], .str [], .str [], .int .i64 0, .int .i64 0, .list 3 [], .list 3 []], []⟩ := rfl
theorem Sj : tab 58 = ⟨.func, 1, 8, .d .nilf, .nilf, []⟩ := rfl
theorem Mt : tab 61 = ⟨.slice 3, 1, 24, .nils 1, .list 1 [], []⟩ := rfl
theorem tab64 : tab 64 = ⟨.map 3 25, 1, 8, .d .nilm, .nilm, []⟩ := rfl
theorem tab73 : tab 73 = ⟨.slice 9, 1, 24, .nils 1, .list 1 [], []⟩ := rfl
theorem Ny : Bp Try.prog tab := tabOk_of (by kernel_rfl)
theorem Ht : Try.prog.follows .mixedOrders = true := by kernel_rfl
instance encU8 : Enc UInt8 := ⟨fun b => .int .u8 b.toNat, fun x => UInt8.ofNat x.i.toNat, fun b => by simp [D.i]⟩
instance szU8 : Sz UInt8 := ⟨1⟩
theorem enc_U8 {b : UInt8} : (enc b : D) = .int .u8 b.toNat := rfl
theorem isE_U8 {b : UInt8} : isE UInt8 (.int .u8 b.toNat) = True := eq_true (B0 b)
theorem dec_U8 {b : UInt8} : (dec (.int .u8 b.toNat) : UInt8) = b := Enc.dec_enc b
def R8 (c a b : UInt8) : Bool := decide (a ≤ c) && decide (c ≤ b)
theorem Ew {a b : UInt8} : leB (a.toNat : Int) (b.toNat : Int) = decide (a ≤ b) := by
  unfold leB
  congr 1
  rw [UInt8.le_iff_toNat_le]
  exact propext (by omega)
def Bh : Con := con3 (fun (_ _ _ : UInt8) => True) (fun c a b => R8 c a b)
noncomputable def Dj : Ctx := ⟨tab, lkC [], 60, lkB [], [], false⟩
theorem ctx_within_t : Dj.τ = tab := rfl
theorem ctx_within_c : Dj.Γ = lkC [] := rfl
theorem ctx_within_d : Dj.dp = 60 := rfl
theorem ctx_within_b : Dj.Δ = lkB [] := rfl
theorem ctx_within_u : Dj.cuts = [] := rfl
theorem ctx_within_w : Dj.wr = false := rfl
set_option maxRecDepth 100000 in
theorem good_within : M7 Try.prog (64, Bh) := by
  refine ⟨He Try.func64 (by kernel_rfl) rfl, ?_⟩
  have K : Nh Try.prog Dj := Hl Ny Ht (by simp) (by simp)
  obtain ⟨c, hc⟩ : ∃ c, Try.f64.body = some c := ⟨_, rfl⟩
  refine Hm K Try.func64 hc [.tmp 6] rfl 15 rfl (fun cvs hpre => ?_)
  change Bh.pre cvs at hpre
  unfold Bh at hpre
  obtain ⟨x, y, z, rfl, -⟩ := con3_pre hpre
  simp only [Try.f64, Option.some.injEq] at hc
  subst hc
  (sym =>
   simp [enc_U8,isE_U8,dec_U8,Ew,ctx_within_t,ctx_within_c,ctx_within_d,ctx_within_b,ctx_within_u,ctx_within_w,Bh.eq_def,Za,Zb,Zc,Zd,Ze,Zf,Zg,Zn,Zo,Zp,Zq,Zr,Zs,Zt,Zv,Qa,Qb,Qc,Qg,Qk,Qm,Qn,Qo,Qp,Qr,Q0,Q1,Q4,Q8,Ja,Jf,Jh,Ji,Jj,Jk,Jl,Jt,Jy,Jz,J5,J6,Xj,Xk,Xl,Xm,Xn,Xo,Xp,Xq,Xr,Xs,Xt,Xu,Xv,Xy,X1,X2,X3,X4,X5,X6,X7,X8,We,Wf,Wg,Wh,Wi,Wj,Wl,Wn,Wo,Wp,Ws,Wt,Wu,Wv,Ww,Wx,Wy,Wz,W0,W3,W4,W5,W6,W7,W8,W9,Ya,Yb,Yc,Yd,Ye,Yf,Yg,Yh,Yi,Yj,Yk,Yl,Ym,Yn,Yo,Yv,Yw,Yx,Yy,Yz,Y1,Y2,Y3,Y4,Y5,Y6,Y7,Y8,Y9,Va,Vb,Vc,Vd,Ve,Vf,Vg,Vh,Vi,Vj,Vk,Vl,Vm,Vn,Vo,Vp,Vq,Vr,Vs,Vt,Vu,Vv,Vw,Vx,Vy,Vz,V0,V1,V2,V3,V4,V5,V6,V7,V8,V9,Ua,Ub,Uc,Ud,Ue,Uf,Ug,Uh,Ui,Uj,Uk,Ul,Um,Un,Uo,Up,Uq,Ur,Us,Ut,Uu,Uv,U1,U2,U5,U6,U7,U8,U9,Ka,Kb,Kc,Kd,Ke,Kf,Kg,Kh,Ki,Kj,Kk,Kl,Km,Kn,Ko,Kq,Kr,Ks,Kt,Ku,Kv,Kw,Kx,Ky,Kz,K0,K1,K2,K3,K4,K5,K6,K7,Gg,Gi,Gj,Gk,Gl,Gm,Gn,Gr,tab5]
   tactic =>
    try simp only [G6] at *
    try simp only [nc2] at *
    try simp (maxSteps := 4000000) only [enc_U8,isE_U8,dec_U8,Ew,Hi]
    repeat' (first | with_reducible assumption | with_reducible refine And.intro ?_ ?_ | intro _ | omega | (rw [Gy]; omega))
    · rename_i h
      unfold R8
      simp [h]
    · rename_i h
      unfold R8
      rw [decide_eq_false h]
      rfl)
def behind (c : UInt8) : Bool := R8 c 97 122 || R8 c 65 90 || R8 c 48 57 || c == 95
theorem eq_u8 {a b : UInt8} : ((a.toNat : Int) == (b.toNat : Int)) = (a == b) := by
  rw [Bool.eq_iff_iff, beq_iff_eq, beq_iff_eq]
  constructor
  · intro h; exact UInt8.toNat_inj.1 (by omega)
  · intro h; rw [h]
theorem b97 : D.int .u8 97 = enc (97 : UInt8) := rfl
theorem b122 : D.int .u8 122 = enc (122 : UInt8) := rfl
theorem b65 : D.int .u8 65 = enc (65 : UInt8) := rfl
theorem b90 : D.int .u8 90 = enc (90 : UInt8) := rfl
theorem b48 : D.int .u8 48 = enc (48 : UInt8) := rfl
theorem b57 : D.int .u8 57 = enc (57 : UInt8) := rfl
theorem Ec {b : UInt8} : (.int .u8 b.toNat : D) = enc b := rfl
theorem Lq {k : IntKind} {x : UInt8} : D.isInt k (enc x) = (.u8 = k) := rfl
theorem i_U8 {x : UInt8} : D.i (enc x) = x.toNat := rfl
theorem Tn {s : Nat} {x : UInt8} : D.fits s (enc x) = (s = 1) := rfl
theorem Tp {f : Nat} {x : UInt8} : D.cell (enc x) f = enc x := rfl
theorem eq95 {x : UInt8} : ((x.toNat : Int) == 95) = (x == 95) := eq_u8 (b := 95)
def Td : Con := Sn (fun (_ : UInt8) => True) (fun c => behind c)
noncomputable def Dn : Ctx := ⟨tab, lkC [(64, Bh)], 60, lkB [], [], false⟩
theorem ctx_behind_t : Dn.τ = tab := rfl
theorem ctx_behind_c : Dn.Γ = lkC [(64, Bh)] := rfl
theorem ctx_behind_d : Dn.dp = 60 := rfl
theorem ctx_behind_b : Dn.Δ = lkB [] := rfl
theorem ctx_behind_u : Dn.cuts = [] := rfl
theorem ctx_behind_w : Dn.wr = false := rfl
set_option maxRecDepth 100000 in
theorem good_behind : M7 Try.prog (72, Td) := by
  refine ⟨He Try.func72 (by kernel_rfl) rfl, ?_⟩
  have K : Nh Try.prog Dn := Hl Ny Ht (by
    intro p hp
    simp only [List.mem_cons, List.not_mem_nil, or_false] at hp
    rcases hp with rfl
    · exact good_within) (by simp)
  obtain ⟨c, hc⟩ : ∃ c, Try.f72.body = some c := ⟨_, rfl⟩
  refine Hm K Try.func72 hc [.tmp 2] rfl 17 rfl (fun cvs hpre => ?_)
  change Td.pre cvs at hpre
  unfold Td at hpre
  obtain ⟨x, rfl, -⟩ := Nw hpre
  simp only [Try.f72, Option.some.injEq] at hc
  subst hc
  (sym =>
   simp [b97,b122,b65,b90,b48,b57,Ec,Lq,i_U8,Tn,Tp,Ew,eq95,ctx_behind_t,ctx_behind_c,ctx_behind_d,ctx_behind_b,ctx_behind_u,ctx_behind_w,Td.eq_def,Bh.eq_def,Za,Zb,Zc,Zd,Ze,Zf,Zg,Zn,Zo,Zp,Zq,Zr,Zs,Zt,Zv,Z8,Z9,Qa,Qb,Qc,Qd,Qe,Qf,Qg,Qk,Qm,Qn,Qo,Qp,Qr,Q0,Q1,Q4,Q8,Q9,Ja,Jf,Jh,Ji,Jj,Jk,Jl,Jt,Jy,Jz,J5,J6,Xj,Xk,Xl,Xm,Xn,Xo,Xp,Xq,Xr,Xs,Xt,Xu,Xv,Xy,X1,X2,X3,X4,X5,X6,X7,X8,We,Wf,Wg,Wh,Wi,Wj,Wl,Wn,Wo,Wp,Ws,Wt,Wu,Wv,Ww,Wx,Wy,Wz,W0,W3,W4,W5,W6,W7,W8,W9,Ya,Yb,Yc,Yd,Ye,Yf,Yg,Yh,Yi,Yj,Yk,Yl,Ym,Yn,Yo,Yv,Yw,Yx,Yy,Yz,Y1,Y2,Y3,Y4,Y5,Y6,Y7,Y8,Y9,Va,Vb,Vc,Vd,Ve,Vf,Vg,Vh,Vi,Vj,Vk,Vl,Vm,Vn,Vo,Vp,Vq,Vr,Vs,Vt,Vu,Vv,Vw,Vx,Vy,Vz,V0,V1,V2,V3,V4,V5,V6,V7,V8,V9,Ua,Ub,Uc,Ud,Ue,Uf,Ug,Uh,Ui,Uj,Uk,Ul,Um,Un,Uo,Up,Uq,Ur,Us,Ut,Uu,Uv,U1,U2,U5,U6,U7,U8,U9,Ka,Kb,Kc,Kd,Ke,Kf,Kg,Kh,Ki,Kj,Kk,Kl,Km,Kn,Ko,Kq,Kr,Ks,Kt,Ku,Kv,Kw,Kx,Ky,Kz,K0,K1,K2,K3,K4,K5,K6,K7,Gg,Gi,Gj,Gk,Gl,Gm,Gn,Gr,tab5]
   tactic =>
    try simp only [G6] at *
    try simp only [nc2] at *
    try simp (maxSteps := 4000000) only [b97,b122,b65,b90,b48,b57,Ec,Lq,i_U8,Tn,Tp,Ew,eq95,Hi]
    unfold behind
    refine ⟨fun h1 => ⟨fun h2 => ⟨fun h3 => ?_, fun h3 => ?_⟩, fun h2 => ?_⟩, fun h1 => ?_⟩
    all_goals simp only [*, Bool.false_or, Bool.true_or, Bool.or_true])
def D9 (s : List UInt8) : Bool := s.all behind
theorem drop1_getD {s : List UInt8} {j : Nat} : (s.drop 1).getD j 0 = s.getD (j + 1) 0 := by
  simp [List.getD_eq_getElem?_getD,Nat.add_comm]
def Ti : Con := Sn (fun (s : List UInt8) => s.length ≤ 9223372036854775807) (fun s => D9 (s.drop 1))
noncomputable def As : Ctx := ⟨tab, lkC [(72, Td)], 60, lkB [], [], false⟩
theorem ctx_all1_t : As.τ = tab := rfl
theorem ctx_all1_c : As.Γ = lkC [(72, Td)] := rfl
theorem ctx_all1_d : As.dp = 60 := rfl
theorem ctx_all1_b : As.Δ = lkB [] := rfl
theorem ctx_all1_u : As.cuts = [] := rfl
theorem ctx_all1_w : As.wr = false := rfl
set_option maxRecDepth 100000 in
theorem good_all1 : M7 Try.prog (65, Ti) := by
  refine ⟨He Try.func65 (by kernel_rfl) rfl, ?_⟩
  have K : Nh Try.prog As := Hl Ny Ht (by
    intro p hp
    simp only [List.mem_cons, List.not_mem_nil, or_false] at hp
    rcases hp with rfl
    · exact good_behind) (by simp)
  obtain ⟨c, hc⟩ : ∃ c, Try.f65.body = some c := ⟨_, rfl⟩
  refine Hm K Try.func65 hc [.tmp 2] rfl 15 rfl (fun cvs hpre => ?_)
  change Ti.pre cvs at hpre
  unfold Ti at hpre
  obtain ⟨s, rfl, hs⟩ := Nw hpre
  simp only [Try.f65, Option.some.injEq] at hc
  subst hc
  (sym =>
   simp [ctx_all1_t,ctx_all1_c,ctx_all1_d,ctx_all1_b,ctx_all1_u,ctx_all1_w,Ti.eq_def,Td.eq_def,Za,Zb,Zc,Ze,Zf,Zg,Zn,Zo,Zp,Zq,Zr,Zs,Zv,Zz,Z5,Z8,Z9,Qa,Qb,Qc,Qd,Qe,Qf,Qg,Qk,Qm,Qn,Qo,Qp,Qr,Q0,Q1,Q4,Q8,Q9,Ja,Jf,Jh,Ji,Jj,Jk,Jl,Jt,Jy,Jz,J0,J1,J2,J5,J6,Xj,Xk,Xl,Xm,Xn,Xo,Xp,Xq,Xr,Xs,Xt,Xu,Xv,Xy,X1,X2,X3,X4,X5,X6,X7,X8,We,Wf,Wg,Wh,Wi,Wj,Wl,Wm,Wn,Wo,Wp,Ws,Wt,Wu,Wv,Ww,Wx,Wy,Wz,W0,W3,W4,W5,W6,W7,W8,W9,Ya,Yb,Yc,Yd,Ye,Yf,Yg,Yh,Yi,Yj,Yk,Yl,Ym,Yn,Yo,Yu,Yv,Yw,Yx,Yy,Yz,Y1,Y2,Y3,Y4,Y5,Y6,Y7,Y8,Y9,Va,Vb,Vc,Vd,Ve,Vf,Vg,Vh,Vi,Vj,Vk,Vl,Vm,Vn,Vo,Vp,Vq,Vr,Vs,Vt,Vu,Vv,Vw,Vx,Vy,Vz,V0,V1,V2,V3,V4,V5,V6,V7,V8,V9,Ua,Ub,Uc,Ud,Ue,Uf,Ug,Uh,Ui,Uj,Uk,Ul,Um,Un,Uo,Up,Uq,Ur,Us,Ut,Uu,Uv,U1,U2,U5,U6,U7,U8,U9,Ka,Kb,Kc,Kd,Ke,Kf,Kg,Kh,Ki,Kj,Kk,Kl,Km,Kn,Ko,Kq,Kr,Ks,Kt,Ku,Kv,Kw,Kx,Ky,Kz,K0,K1,K2,K3,K4,K5,K6,K7,Gg,Gi,Gj,Gk,Gl,Gm,Gn,Gr,Hg,Nf,H3]
   tactic =>
    try simp only [G6] at *
    try simp only [nc2] at *
    try simp (maxSteps := 4000000) only [Hi]
    refine Ho [2, 4, 5, 6, 7, 8, 9, 10, 11, 12, 13, 14] (fun k : Nat => [(3, .d (.int .i64 k))]) (fun k : Nat => []) (fun k : Nat => 1 ≤ k ∧ (k = 1 ∨ k ≤ s.length) ∧ ∀ j, 1 ≤ j → j < k → behind (s.getD j 0) = true) (fun k : Nat => s.length - k) 1 ?_ ?_ ?_
    · simp
      omega
    · ((try simp only [G3, Ha, G5, Hf, upd, Hh, Hn, Na, Nat.reduceDiv, Nat.reduceMod, Nat.reduceMul, Nat.reduceAdd, Nat.reduceEqDiff, List.set_cons_zero, List.set_cons_succ, if_true, if_false, reduceIte]); (first | refine Wk.of_fl ?_ | skip); simp only [Wk, wkK, Nd, wkT, wk1, AV.kept, keptAll, wkO, lk, G4, and_true, true_and, and_self, Nat.reduceEqDiff, Nat.reduceLeDiff, if_true, if_false, reduceIte, reduceCtorEq, Option.isSome, false_implies]; try simp [Wk, wkK, wkT, wk1, AV.kept, keptAll, wkO, lk, G4])
    rintro k ⟨hk1, hk, hno⟩
    rcases Hq k s.length with ⟨hlt, hlb⟩ | ⟨hlt, hlb⟩
    · (sym =>
       simp [hlb,Ec,Lq,i_U8,Tn,Tp,Ew,ctx_all1_t,ctx_all1_c,ctx_all1_d,ctx_all1_b,ctx_all1_u,ctx_all1_w,Ti.eq_def,Td.eq_def,Za,Zb,Zc,Ze,Zf,Zg,Zn,Zo,Zp,Zq,Zr,Zs,Zv,Zz,Z5,Z8,Z9,Qa,Qb,Qc,Qd,Qe,Qf,Qg,Qk,Qm,Qn,Qo,Qp,Qr,Q0,Q1,Q4,Q8,Q9,Ja,Jf,Jh,Ji,Jj,Jk,Jl,Jt,Jy,Jz,J0,J1,J2,J5,J6,Xj,Xk,Xl,Xm,Xn,Xo,Xp,Xq,Xr,Xs,Xt,Xu,Xv,Xy,X1,X2,X3,X4,X5,X6,X7,X8,We,Wf,Wg,Wh,Wi,Wj,Wl,Wm,Wn,Wo,Wp,Ws,Wt,Wu,Wv,Ww,Wx,Wy,Wz,W0,W3,W4,W5,W6,W7,W8,W9,Ya,Yb,Yc,Yd,Ye,Yf,Yg,Yh,Yi,Yj,Yk,Yl,Ym,Yn,Yo,Yu,Yv,Yw,Yx,Yy,Yz,Y1,Y2,Y3,Y4,Y5,Y6,Y7,Y8,Y9,Va,Vb,Vc,Vd,Ve,Vf,Vg,Vh,Vi,Vj,Vk,Vl,Vm,Vn,Vo,Vp,Vq,Vr,Vs,Vt,Vu,Vv,Vw,Vx,Vy,Vz,V0,V1,V2,V3,V4,V5,V6,V7,V8,V9,Ua,Ub,Uc,Ud,Ue,Uf,Ug,Uh,Ui,Uj,Uk,Ul,Um,Un,Uo,Up,Uq,Ur,Us,Ut,Uu,Uv,U1,U2,U5,U6,U7,U8,U9,Ka,Kb,Kc,Kd,Ke,Kf,Kg,Kh,Ki,Kj,Kk,Kl,Km,Kn,Ko,Kq,Kr,Ks,Kt,Ku,Kv,Kw,Kx,Ky,Kz,K0,K1,K2,K3,K4,K5,K6,K7,Gg,Gi,Gj,Gk,Gl,Gm,Gn,Gr,Hg,Nf,H3]
       tactic =>
        try simp only [G6] at *
        try simp only [nc2] at *
        try simp (maxSteps := 4000000) only [hlb,Ec,Lq,i_U8,Tn,Tp,Ew,Hi]
        repeat' (first | with_reducible assumption | with_reducible refine And.intro ?_ ?_ | intro _ | omega | (rw [Gy]; omega))
        · rename_i hb
          unfold D9
          rw [Iz (p := behind) 0 (k - 1) (by rw [List.length_drop]; omega) (by rw [drop1_getD, show k - 1 + 1 = k by omega]; exact hb)]
        · rename_i hb
          refine ⟨k + 1, by ((try simp only [G3, Ha, G5, Hf, upd, Hh, Hn, Na, Nat.reduceDiv, Nat.reduceMod, Nat.reduceMul, Nat.reduceAdd, Nat.reduceEqDiff, List.set_cons_zero, List.set_cons_succ, if_true, if_false, reduceIte]); (first | refine Wk.of_fl ?_ | skip); simp only [Wk, wkK, Nd, wkT, wk1, AV.kept, keptAll, wkO, lk, G4, and_true, true_and, and_self, Nat.reduceEqDiff, Nat.reduceLeDiff, if_true, if_false, reduceIte, reduceCtorEq, Option.isSome, false_implies]; try simp [Wk, wkK, wkT, wk1, AV.kept, keptAll, wkO, lk, G4]), by omega, by omega, fun j h1 hj => ?_, by omega⟩
          by_cases hjk : j = k
          · subst hjk; exact hb
          · exact hno j h1 (by omega))
    · (sym =>
       simp [hlb,ctx_all1_t,ctx_all1_c,ctx_all1_d,ctx_all1_b,ctx_all1_u,ctx_all1_w,Ti.eq_def,Td.eq_def,Za,Zb,Zc,Ze,Zf,Zg,Zn,Zo,Zp,Zq,Zr,Zs,Zv,Zz,Z5,Z8,Z9,Qa,Qb,Qc,Qd,Qe,Qf,Qg,Qk,Qm,Qn,Qo,Qp,Qr,Q0,Q1,Q4,Q8,Q9,Ja,Jf,Jh,Ji,Jj,Jk,Jl,Jt,Jy,Jz,J0,J1,J2,J5,J6,Xj,Xk,Xl,Xm,Xn,Xo,Xp,Xq,Xr,Xs,Xt,Xu,Xv,Xy,X1,X2,X3,X4,X5,X6,X7,X8,We,Wf,Wg,Wh,Wi,Wj,Wl,Wm,Wn,Wo,Wp,Ws,Wt,Wu,Wv,Ww,Wx,Wy,Wz,W0,W3,W4,W5,W6,W7,W8,W9,Ya,Yb,Yc,Yd,Ye,Yf,Yg,Yh,Yi,Yj,Yk,Yl,Ym,Yn,Yo,Yu,Yv,Yw,Yx,Yy,Yz,Y1,Y2,Y3,Y4,Y5,Y6,Y7,Y8,Y9,Va,Vb,Vc,Vd,Ve,Vf,Vg,Vh,Vi,Vj,Vk,Vl,Vm,Vn,Vo,Vp,Vq,Vr,Vs,Vt,Vu,Vv,Vw,Vx,Vy,Vz,V0,V1,V2,V3,V4,V5,V6,V7,V8,V9,Ua,Ub,Uc,Ud,Ue,Uf,Ug,Uh,Ui,Uj,Uk,Ul,Um,Un,Uo,Up,Uq,Ur,Us,Ut,Uu,Uv,U1,U2,U5,U6,U7,U8,U9,Ka,Kb,Kc,Kd,Ke,Kf,Kg,Kh,Ki,Kj,Kk,Kl,Km,Kn,Ko,Kq,Kr,Ks,Kt,Ku,Kv,Kw,Kx,Ky,Kz,K0,K1,K2,K3,K4,K5,K6,K7,Gg,Gi,Gj,Gk,Gl,Gm,Gn,Gr,Hg,Nf,H3]
       tactic =>
        try simp only [G6] at *
        try simp only [nc2] at *
        try simp (maxSteps := 4000000) only [hlb,Hi]
        unfold D9
        rw [Eb (p := behind) 0 fun j hj => ?_]
        rw [drop1_getD]
        rw [List.length_drop] at hj
        exact hno (j + 1) (by omega) (by omega)))
def B5 (s : List UInt8) : Bool := match s with
  | [] => false
  | c :: r => R8 c 97 122 && D9 r
def Ox (s : List UInt8) : Bool := match s with
  | [] => false
  | c :: r => R8 c 65 90 && D9 r
def Hd : Con := Sn (fun (s : List UInt8) => s.length ≤ 9223372036854775807) (fun s => B5 s)
noncomputable def Cc : Ctx := ⟨tab, lkC [(64, Bh), (65, Ti)], 60, lkB [], [], false⟩
theorem ctx_IsWord1_t : Cc.τ = tab := rfl
theorem ctx_IsWord1_c : Cc.Γ = lkC [(64, Bh), (65, Ti)] := rfl
theorem ctx_IsWord1_d : Cc.dp = 60 := rfl
theorem ctx_IsWord1_b : Cc.Δ = lkB [] := rfl
theorem ctx_IsWord1_u : Cc.cuts = [] := rfl
theorem ctx_IsWord1_w : Cc.wr = false := rfl
set_option maxRecDepth 100000 in
theorem Rv : M7 Try.prog (47, Hd) := by
  refine ⟨He Try.func47 (by kernel_rfl) rfl, ?_⟩
  have K : Nh Try.prog Cc := Hl Ny Ht (by
    intro p hp
    simp only [List.mem_cons, List.not_mem_nil, or_false] at hp
    rcases hp with rfl | rfl
    · exact good_within
    · exact good_all1) (by simp)
  obtain ⟨c, hc⟩ : ∃ c, Try.f47.body = some c := ⟨_, rfl⟩
  refine Hm K Try.func47 hc [.tmp 2] rfl 15 rfl (fun cvs hpre => ?_)
  change Hd.pre cvs at hpre
  unfold Hd at hpre
  obtain ⟨s, rfl, hs⟩ := Nw hpre
  simp only [Try.f47, Option.some.injEq] at hc
  subst hc
  (sym =>
   simp [Ec,Lq,i_U8,Tn,Tp,Ew,b97,b122,ctx_IsWord1_t,ctx_IsWord1_c,ctx_IsWord1_d,ctx_IsWord1_b,ctx_IsWord1_u,ctx_IsWord1_w,Hd.eq_def,Ti.eq_def,Bh.eq_def,Za,Zb,Zc,Zd,Ze,Zf,Zg,Zn,Zo,Zp,Zq,Zr,Zs,Zt,Zv,Zz,Z5,Z8,Z9,Qa,Qb,Qc,Qd,Qe,Qf,Qg,Qk,Qm,Qn,Qo,Qp,Qr,Q0,Q1,Q4,Q8,Q9,Ja,Jf,Jh,Ji,Jj,Jk,Jl,Jt,Jy,Jz,J5,J6,Xj,Xk,Xl,Xm,Xn,Xo,Xp,Xq,Xr,Xs,Xt,Xu,Xv,Xy,X1,X2,X3,X4,X5,X6,X7,X8,We,Wf,Wg,Wh,Wi,Wj,Wl,Wn,Wo,Wp,Ws,Wt,Wu,Wv,Ww,Wx,Wy,Wz,W0,W3,W4,W5,W6,W7,W8,W9,Ya,Yb,Yc,Yd,Ye,Yf,Yg,Yh,Yi,Yj,Yk,Yl,Ym,Yn,Yo,Yv,Yw,Yx,Yy,Yz,Y1,Y2,Y3,Y4,Y5,Y6,Y7,Y8,Y9,Va,Vb,Vc,Vd,Ve,Vf,Vg,Vh,Vi,Vj,Vk,Vl,Vm,Vn,Vo,Vp,Vq,Vr,Vs,Vt,Vu,Vv,Vw,Vx,Vy,Vz,V0,V1,V2,V3,V4,V5,V6,V7,V8,V9,Ua,Ub,Uc,Ud,Ue,Uf,Ug,Uh,Ui,Uj,Uk,Ul,Um,Un,Uo,Up,Uq,Ur,Us,Ut,Uu,Uv,U1,U2,U5,U6,U7,U8,U9,Ka,Kb,Kc,Kd,Ke,Kf,Kg,Kh,Ki,Kj,Kk,Kl,Km,Kn,Ko,Kq,Kr,Ks,Kt,Ku,Kv,Kw,Kx,Ky,Kz,K0,K1,K2,K3,K4,K5,K6,K7,Gg,Gi,Gj,Gk,Gl,Gm,Gn,Gr,Hg,H3]
   tactic =>
    try simp only [G6] at *
    try simp only [nc2] at *
    try simp (maxSteps := 4000000) only [Ec,Lq,i_U8,Tn,Tp,Ew,b97,b122,Hi]
    cases s with
    | nil => simp [B5]
    | cons c r =>
      simp only [List.length_cons] at hs
      simp only [List.length_cons, B5, Int.toNat_zero, List.getD_cons_zero, List.drop_succ_cons, List.drop_zero]
      repeat' (first | with_reducible assumption | with_reducible refine And.intro ?_ ?_ | intro _ | omega | (rw [Gy]; omega))
      all_goals simp_all)
def Hk : Con := Sn (fun (s : List UInt8) => s.length ≤ 9223372036854775807) (fun s => Ox s)
noncomputable def Dz : Ctx := ⟨tab, lkC [(64, Bh), (65, Ti)], 60, lkB [], [], false⟩
theorem ctx_IsTag1_t : Dz.τ = tab := rfl
theorem ctx_IsTag1_c : Dz.Γ = lkC [(64, Bh), (65, Ti)] := rfl
theorem ctx_IsTag1_d : Dz.dp = 60 := rfl
theorem ctx_IsTag1_b : Dz.Δ = lkB [] := rfl
theorem ctx_IsTag1_u : Dz.cuts = [] := rfl
theorem ctx_IsTag1_w : Dz.wr = false := rfl
set_option maxRecDepth 100000 in
theorem good_IsTag1 : M7 Try.prog (48, Hk) := by
  refine ⟨He Try.func48 (by kernel_rfl) rfl, ?_⟩
  have K : Nh Try.prog Dz := Hl Ny Ht (by
    intro p hp
    simp only [List.mem_cons, List.not_mem_nil, or_false] at hp
    rcases hp with rfl | rfl
    · exact good_within
    · exact good_all1) (by simp)
  obtain ⟨c, hc⟩ : ∃ c, Try.f48.body = some c := ⟨_, rfl⟩
  refine Hm K Try.func48 hc [.tmp 2] rfl 15 rfl (fun cvs hpre => ?_)
  change Hk.pre cvs at hpre
  unfold Hk at hpre
  obtain ⟨s, rfl, hs⟩ := Nw hpre
  simp only [Try.f48, Option.some.injEq] at hc
  subst hc
  (sym =>
   simp [Ec,Lq,i_U8,Tn,Tp,Ew,b65,b90,ctx_IsTag1_t,ctx_IsTag1_c,ctx_IsTag1_d,ctx_IsTag1_b,ctx_IsTag1_u,ctx_IsTag1_w,Hk.eq_def,Ti.eq_def,Bh.eq_def,Za,Zb,Zc,Zd,Ze,Zf,Zg,Zn,Zo,Zp,Zq,Zr,Zs,Zt,Zv,Zz,Z5,Z8,Z9,Qa,Qb,Qc,Qd,Qe,Qf,Qg,Qk,Qm,Qn,Qo,Qp,Qr,Q0,Q1,Q4,Q8,Q9,Ja,Jf,Jh,Ji,Jj,Jk,Jl,Jt,Jy,Jz,J5,J6,Xj,Xk,Xl,Xm,Xn,Xo,Xp,Xq,Xr,Xs,Xt,Xu,Xv,Xy,X1,X2,X3,X4,X5,X6,X7,X8,We,Wf,Wg,Wh,Wi,Wj,Wl,Wn,Wo,Wp,Ws,Wt,Wu,Wv,Ww,Wx,Wy,Wz,W0,W3,W4,W5,W6,W7,W8,W9,Ya,Yb,Yc,Yd,Ye,Yf,Yg,Yh,Yi,Yj,Yk,Yl,Ym,Yn,Yo,Yv,Yw,Yx,Yy,Yz,Y1,Y2,Y3,Y4,Y5,Y6,Y7,Y8,Y9,Va,Vb,Vc,Vd,Ve,Vf,Vg,Vh,Vi,Vj,Vk,Vl,Vm,Vn,Vo,Vp,Vq,Vr,Vs,Vt,Vu,Vv,Vw,Vx,Vy,Vz,V0,V1,V2,V3,V4,V5,V6,V7,V8,V9,Ua,Ub,Uc,Ud,Ue,Uf,Ug,Uh,Ui,Uj,Uk,Ul,Um,Un,Uo,Up,Uq,Ur,Us,Ut,Uu,Uv,U1,U2,U5,U6,U7,U8,U9,Ka,Kb,Kc,Kd,Ke,Kf,Kg,Kh,Ki,Kj,Kk,Kl,Km,Kn,Ko,Kq,Kr,Ks,Kt,Ku,Kv,Kw,Kx,Ky,Kz,K0,K1,K2,K3,K4,K5,K6,K7,Gg,Gi,Gj,Gk,Gl,Gm,Gn,Gr,Hg,H3]
   tactic =>
    try simp only [G6] at *
    try simp only [nc2] at *
    try simp (maxSteps := 4000000) only [Ec,Lq,i_U8,Tn,Tp,Ew,b65,b90,Hi]
    cases s with
    | nil => simp [Ox]
    | cons c r =>
      simp only [List.length_cons] at hs
      simp only [List.length_cons, Ox, Int.toNat_zero, List.getD_cons_zero, List.drop_succ_cons, List.drop_zero]
      repeat' (first | with_reducible assumption | with_reducible refine And.intro ?_ ?_ | intro _ | omega | (rw [Gy]; omega))
      all_goals simp_all)
structure Node where
  kind : Int
  name : List UInt8
  n : Int
  deriving DecidableEq
instance encNode : Enc Node := ⟨fun a => .agg [.int .i64 a.kind, .str a.name, .int .i64 a.n], fun x => match x with
  | .agg [a, b, c] => ⟨a.i, b.s, c.i⟩
  | _ => ⟨0, [], 0⟩, fun a => rfl⟩
instance szNode : Sz Node := ⟨3⟩
theorem szN : Sz.sz Node = 3 := rfl
theorem Gt {n : Node} : (enc n : D) = .agg [.int .i64 n.kind, .str n.name, .int .i64 n.n] := rfl
theorem Gx {a : Int} {b : List UInt8} {c : Int} : (dec (.agg [.int .i64 a, .str b, .int .i64 c]) : Node) = ⟨a, b, c⟩ := rfl
theorem Gv {a : Int} {b : List UInt8} {c : Int} : isE Node (.agg [.int .i64 a, .str b, .int .i64 c]) = True := eq_true rfl
theorem Gw {a b : Node} : ((a.kind == b.kind) && ((a.name == b.name) && (a.n == b.n))) = (a == b) := by
  rw [Bool.eq_iff_iff]
  cases a; cases b
  simp
theorem Gu {n : Node} : Node.mk n.kind n.name n.n = n := rfl
def Py (n : Node) : Int := if n.kind = 5 then 2 else if n.kind = 6 ∨ n.kind = 7 then n.n else 0
def Nz : Con := Sn (fun (_ : Node) => True) (fun n => Py n)
noncomputable def Fb : Ctx := ⟨tab, lkC [], 60, lkB [], [], false⟩
theorem ctx_many3_t : Fb.τ = tab := rfl
theorem ctx_many3_c : Fb.Γ = lkC [] := rfl
theorem ctx_many3_d : Fb.dp = 60 := rfl
theorem ctx_many3_b : Fb.Δ = lkB [] := rfl
theorem ctx_many3_u : Fb.cuts = [] := rfl
theorem ctx_many3_w : Fb.wr = false := rfl
set_option maxRecDepth 100000 in
theorem good_many3 : M7 Try.prog (32, Nz) := by
  refine ⟨He Try.func32 (by kernel_rfl) rfl, ?_⟩
  have K : Nh Try.prog Fb := Hl Ny Ht (by simp) (by simp)
  obtain ⟨c, hc⟩ : ∃ c, Try.f32.body = some c := ⟨_, rfl⟩
  refine Hm K Try.func32 hc [.tmp 2] rfl 16 rfl (fun cvs hpre => ?_)
  change Nz.pre cvs at hpre
  unfold Nz at hpre
  obtain ⟨n, rfl, -⟩ := Nw hpre
  simp only [Try.f32, Option.some.injEq] at hc
  subst hc
  (sym =>
   simp [Gt,Gv,Gx,Gu,szN,Gw,ctx_many3_t,ctx_many3_c,ctx_many3_d,ctx_many3_b,ctx_many3_u,ctx_many3_w,Nz.eq_def,Za,Zb,Zc,Zd,Ze,Zf,Zg,Zn,Zo,Zp,Zq,Zr,Zs,Zt,Zu,Zv,Zx,Qa,Qb,Qc,Qg,Qk,Ql,Qm,Qn,Qo,Qp,Qr,Q0,Q1,Q4,Q8,Ja,Jf,Jh,Ji,Jj,Jk,Jl,Jt,Jy,Jz,J5,J6,Xj,Xk,Xl,Xm,Xn,Xo,Xp,Xq,Xr,Xs,Xt,Xu,Xv,Xy,X1,X2,X3,X4,X5,X6,X7,X8,We,Wf,Wg,Wh,Wi,Wj,Wl,Wn,Wo,Wp,Ws,Wt,Wu,Wv,Ww,Wx,Wy,Wz,W0,W3,W4,W5,W6,W7,W8,W9,Ya,Yb,Yc,Yd,Ye,Yf,Yg,Yh,Yi,Yj,Yk,Yl,Ym,Yn,Yo,Yv,Yw,Yx,Yy,Yz,Y1,Y2,Y3,Y4,Y5,Y6,Y7,Y8,Y9,Va,Vb,Vc,Vd,Ve,Vf,Vg,Vh,Vi,Vj,Vk,Vl,Vm,Vn,Vo,Vp,Vq,Vr,Vs,Vt,Vu,Vv,Vw,Vx,Vy,Vz,V0,V1,V2,V3,V4,V5,V6,V7,V8,V9,Ua,Ub,Uc,Ud,Ue,Uf,Ug,Uh,Ui,Uj,Uk,Ul,Um,Un,Uo,Up,Uq,Ur,Us,Ut,Uu,Uv,U1,U2,U5,U6,U7,U8,U9,Ka,Kb,Kc,Kd,Ke,Kf,Kg,Kh,Ki,Kj,Kk,Kl,Km,Kn,Ko,Kq,Kr,Ks,Kt,Ku,Kv,Kw,Kx,Ky,Kz,K0,K1,K2,K3,K4,K5,K6,K7,Gg,Gi,Gj,Gk,Gl,Gm,Gn,Gr,Hg,Hb]
   tactic =>
    try simp only [G6] at *
    try simp only [nc2] at *
    try simp (maxSteps := 4000000) only [Gt,Gv,Gx,Gu,szN,Gw,Hi]
    unfold Py
    refine ⟨fun h => by rw [if_pos h], fun h => ⟨fun h6 => ⟨fun h7 => by rw [if_neg h, if_pos (.inr h7)], fun h7 => by rw [if_neg h, if_neg (by omega)]⟩, fun h6 => by rw [if_neg h, if_pos (.inl h6)]⟩⟩)
def Tg (n : Node) : Bool :=
  if n.kind = 0 ∨ n.kind = 8 ∨ n.kind = 9 then decide (0 ≤ n.n)
  else if 1 ≤ n.kind ∧ n.kind ≤ 5 then decide (n.n = 0)
  else if n.kind = 6 then decide (0 ≤ n.n) && decide (n.n ≤ 50)
  else if n.kind = 7 then decide (1 ≤ n.n) && decide (n.n ≤ 50)
  else false
def Pk : Con := Sn (fun (_ : Node) => True) (fun n => Tg n)
noncomputable def L7 : Ctx := ⟨tab, lkC [], 60, lkB [], [], false⟩
theorem ctx_numbered3_t : L7.τ = tab := rfl
theorem ctx_numbered3_c : L7.Γ = lkC [] := rfl
theorem ctx_numbered3_d : L7.dp = 60 := rfl
theorem ctx_numbered3_b : L7.Δ = lkB [] := rfl
theorem ctx_numbered3_u : L7.cuts = [] := rfl
theorem ctx_numbered3_w : L7.wr = false := rfl
set_option maxRecDepth 100000 in
theorem good_numbered3 : M7 Try.prog (28, Pk) := by
  refine ⟨He Try.func28 (by kernel_rfl) rfl, ?_⟩
  have K : Nh Try.prog L7 := Hl Ny Ht (by simp) (by simp)
  obtain ⟨c, hc⟩ : ∃ c, Try.f28.body = some c := ⟨_, rfl⟩
  refine Hm K Try.func28 hc [.tmp 2] rfl 41 rfl (fun cvs hpre => ?_)
  change Pk.pre cvs at hpre
  unfold Pk at hpre
  obtain ⟨n, rfl, -⟩ := Nw hpre
  simp only [Try.f28, Option.some.injEq] at hc
  subst hc
  refine Mn 2 (of_decide_eq_true (by kernel_rfl)) ?_
  (sym =>
   simp [Gt,Gv,Gx,Gu,szN,Gw,ctx_numbered3_t,ctx_numbered3_c,ctx_numbered3_d,ctx_numbered3_b,ctx_numbered3_u,ctx_numbered3_w,Pk.eq_def,Za,Zb,Zc,Zd,Ze,Zf,Zg,Zn,Zo,Zp,Zq,Zr,Zs,Zt,Zu,Zv,Zx,Qa,Qb,Qc,Qg,Qk,Ql,Qm,Qn,Qo,Qp,Qr,Q0,Q1,Q4,Q8,Ja,Jf,Jh,Ji,Jj,Jk,Jl,Jt,Jx,Jy,Jz,J5,J6,J7,J8,J9,Xa,Xb,Xc,Xd,Xe,Xf,Xg,Xj,Xk,Xl,Xm,Xn,Xo,Xp,Xq,Xr,Xs,Xt,Xu,Xv,Xw,Xx,Xy,X1,X2,X3,X4,X5,X6,X7,X8,We,Wf,Wg,Wh,Wi,Wj,Wl,Wn,Wo,Wp,Ws,Wt,Wu,Wv,Ww,Wx,Wy,Wz,W0,W3,W4,W5,W6,W7,W8,W9,Ya,Yb,Yc,Yd,Ye,Yf,Yg,Yh,Yi,Yj,Yk,Yl,Ym,Yn,Yo,Yr,Ys,Yt,Yv,Yw,Yx,Yy,Yz,Y1,Y2,Y3,Y4,Y5,Y6,Y7,Y8,Y9,Va,Vb,Vc,Vd,Ve,Vf,Vg,Vh,Vi,Vj,Vk,Vl,Vm,Vn,Vo,Vp,Vq,Vr,Vs,Vt,Vu,Vv,Vw,Vx,Vy,Vz,V0,V1,V2,V3,V4,V5,V6,V7,V8,V9,Ua,Ub,Uc,Ud,Ue,Uf,Ug,Uh,Ui,Uj,Uk,Ul,Um,Un,Uo,Up,Uq,Ur,Us,Ut,Uu,Uv,U1,U2,U5,U6,U7,U8,U9,Ka,Kb,Kc,Kd,Ke,Kf,Kg,Kh,Ki,Kj,Kk,Kl,Km,Kn,Ko,Kq,Kr,Ks,Kt,Ku,Kv,Kw,Kx,Ky,Kz,K0,K1,K2,K3,K4,K5,K6,K7,Gg,Gi,Gj,Gk,Gl,Gm,Gn,Gr,Hg,Hb]
   tactic =>
    try simp only [G6] at *
    try simp only [nc2] at *
    try simp (maxSteps := 4000000) only [Gt,Gv,Gx,Gu,szN,Gw,Hi]
    unfold Tg
    repeat' (first | with_reducible assumption | with_reducible refine And.intro ?_ ?_ | intro _ | omega | (rw [Gy]; omega))
    all_goals repeat (first | rw [if_pos (by omega)] | rw [if_neg (by omega)])
    all_goals try unfold leB
    all_goals try unfold ltB
    all_goals rw [Bool.eq_iff_iff]
    all_goals simp only [Bool.and_eq_true, Bool.or_eq_true, decide_eq_true_eq, beq_iff_eq, Bool.false_eq_true, iff_self, false_iff, iff_false, true_iff, iff_true]
    all_goals omega)
def eat : List Node → Int → Nat
  | [], _ => 0
  | n :: l, o => if o - 1 + Py n = 0 then 1 else 1 + eat l (o - 1 + Py n)
def end3 (t : List Node) (i : Int) : Int := if i < 0 ∨ (t.length : Int) ≤ i then -1 else i + eat (t.drop i.toNat) 1
def Tame (t : List Node) : Prop := t.length ≤ 100000 ∧ ∀ n ∈ t, 0 ≤ Py n ∧ Py n ≤ 50
def N1 : Con := C0 (fun (t : Sl Node) (i : Int) => Tame t.l ∧ inR .i64 i) (fun t i => end3 t.l i)
noncomputable def Ay : Ctx := ⟨tab, lkC [(32, Nz)], 60, lkB [], [], false⟩
theorem ctx_End3_t : Ay.τ = tab := rfl
theorem ctx_End3_c : Ay.Γ = lkC [(32, Nz)] := rfl
theorem ctx_End3_d : Ay.dp = 60 := rfl
theorem ctx_End3_b : Ay.Δ = lkB [] := rfl
theorem ctx_End3_u : Ay.cuts = [] := rfl
theorem ctx_End3_w : Ay.wr = false := rfl
set_option maxRecDepth 100000 in
theorem good_End3 : M7 Try.prog (13, N1) := by
  refine ⟨He Try.func13 (by kernel_rfl) rfl, ?_⟩
  have K : Nh Try.prog Ay := Hl Ny Ht (by
    intro p hp
    simp only [List.mem_cons, List.not_mem_nil, or_false] at hp
    rcases hp with rfl
    · exact good_many3) (by simp)
  obtain ⟨c, hc⟩ : ∃ c, Try.f13.body = some c := ⟨_, rfl⟩
  refine Hm K Try.func13 hc [.tmp 4] rfl 36 rfl (fun cvs hpre => ?_)
  change N1.pre cvs at hpre
  unfold N1 at hpre
  obtain ⟨⟨t⟩, i, rfl, ⟨ht, hm⟩, hi⟩ := Mp hpre
  simp only at ht hm
  rw [Gy] at hi
  simp only [Try.f13, Option.some.injEq] at hc
  subst hc
  refine Mn 2 (of_decide_eq_true (by kernel_rfl)) ?_
  (sym =>
   simp [Gt,Gv,Gx,Gu,szN,Gw,ctx_End3_t,ctx_End3_c,ctx_End3_d,ctx_End3_b,ctx_End3_u,ctx_End3_w,N1.eq_def,Nz.eq_def,Za,Zb,Zc,Zd,Ze,Zf,Zg,Zn,Zo,Zp,Zq,Zr,Zs,Zt,Zv,Zy,Z5,Z8,Z9,Qa,Qb,Qc,Qd,Qe,Qf,Qg,Qk,Ql,Qm,Qn,Qo,Qp,Qr,Q0,Q1,Q4,Q8,Q9,Ja,Jf,Jh,Ji,Jj,Jk,Jl,Jt,Jx,Jy,Jz,J0,J1,J2,J5,J6,J7,J8,J9,Xa,Xb,Xc,Xd,Xe,Xf,Xg,Xj,Xk,Xl,Xm,Xn,Xo,Xp,Xq,Xr,Xs,Xt,Xu,Xv,Xw,Xx,Xy,X1,X2,X3,X4,X5,X6,X7,X8,We,Wf,Wg,Wh,Wi,Wj,Wl,Wm,Wn,Wo,Wp,Ws,Wt,Wu,Wv,Ww,Wx,Wy,Wz,W0,W3,W4,W5,W6,W7,W8,W9,Ya,Yb,Yc,Yd,Ye,Yf,Yg,Yh,Yi,Yj,Yk,Yl,Ym,Yn,Yo,Yr,Ys,Yt,Yu,Yv,Yw,Yx,Yy,Yz,Y1,Y2,Y3,Y4,Y5,Y6,Y7,Y8,Y9,Va,Vb,Vc,Vd,Ve,Vf,Vg,Vh,Vi,Vj,Vk,Vl,Vm,Vn,Vo,Vp,Vq,Vr,Vs,Vt,Vu,Vv,Vw,Vx,Vy,Vz,V0,V1,V2,V3,V4,V5,V6,V7,V8,V9,Ua,Ub,Uc,Ud,Ue,Uf,Ug,Uh,Ui,Uj,Uk,Ul,Um,Un,Uo,Up,Uq,Ur,Us,Ut,Uu,Uv,U1,U2,U5,U6,U7,U8,U9,Ka,Kb,Kc,Kd,Ke,Kf,Kg,Kh,Ki,Kj,Kk,Kl,Km,Kn,Ko,Kq,Kr,Ks,Kt,Ku,Kv,Kw,Kx,Ky,Kz,K0,K1,K2,K3,K4,K5,K6,K7,Gg,Gi,Gj,Gk,Gl,Gm,Gn,Gr,Hg,Hc,Hb]
   tactic =>
    try simp only [G6] at *
    try simp only [nc2] at *
    try simp (maxSteps := 4000000) only [Gt,Gv,Gx,Gu,szN,Gw,Hi]
    repeat' (first | with_reducible assumption | with_reducible refine And.intro ?_ ?_ | intro _ | omega | (rw [Gy]; omega))
    · unfold end3
      rw [if_pos (.inr ‹_›)]
    · obtain ⟨i, rfl⟩ : ∃ n : Nat, i = n := ⟨i.toNat, by omega⟩
      have hil : i < t.length := by omega
      have e0 : end3 t i = i + eat (t.drop i) 1 := by
        unfold end3
        rw [if_neg (by omega)]
        rfl
      refine Ho [4, 16, 17, 18, 19, 20, 21, 22, 23, 24, 25, 26, 27, 28, 29, 30, 31, 32, 33] (fun p : Nat × Int => [(5, .d (.int .i64 p.2)), (6, .d (.int .i64 p.1))]) (fun p : Nat × Int => []) (fun p : Nat × Int => i ≤ p.1 ∧ p.1 ≤ t.length ∧ 1 ≤ p.2 ∧ p.2 ≤ 1 + 50 * p.1 ∧ i + eat (t.drop i) 1 = p.1 + eat (t.drop p.1) p.2) (fun p : Nat × Int => t.length - p.1) (i, 1) ?_ ?_ ?_
      · exact ⟨Nat.le_refl _, by simp only; omega, by simp, by simp only; omega, rfl⟩
      · ((try simp only [G3, Ha, G5, Hf, upd, Hh, Hn, Na, Nat.reduceDiv, Nat.reduceMod, Nat.reduceMul, Nat.reduceAdd, Nat.reduceEqDiff, List.set_cons_zero, List.set_cons_succ, if_true, if_false, reduceIte]); (first | refine Wk.of_fl ?_ | skip); simp only [Wk, wkK, Nd, wkT, wk1, AV.kept, keptAll, wkO, lk, G4, and_true, true_and, and_self, Nat.reduceEqDiff, Nat.reduceLeDiff, if_true, if_false, reduceIte, reduceCtorEq, Option.isSome, false_implies]; try simp [Wk, wkK, wkT, wk1, AV.kept, keptAll, wkO, lk, G4])
      rintro ⟨k, o⟩ ⟨h1, h2, h3, h4, h5⟩
      simp only at h1 h2 h3 h4 h5
      rcases Hq k t.length with ⟨hlt, hlb⟩ | ⟨hlt, hlb⟩
      · have hmk := hm (t.getD k ⟨0, [], 0⟩) (by simp [hlt])
        have he : eat (t.drop k) o = if o - 1 + Py (t.getD k ⟨0, [], 0⟩) = 0 then 1 else 1 + eat (t.drop (k + 1)) (o - 1 + Py (t.getD k ⟨0, [], 0⟩)) := by
          rw [List.drop_eq_getElem_cons hlt, eat]
          simp [hlt]
        have zz1 := H7 (⟨0, [], 0⟩ : Node) hlt
        (sym =>
         simp [hlb,zz1,Gt,Gv,Gx,Gu,szN,Gw,ctx_End3_t,ctx_End3_c,ctx_End3_d,ctx_End3_b,ctx_End3_u,ctx_End3_w,N1.eq_def,Nz.eq_def,Za,Zb,Zc,Zd,Ze,Zf,Zg,Zn,Zo,Zp,Zq,Zr,Zs,Zt,Zv,Zy,Z5,Z8,Z9,Qa,Qb,Qc,Qd,Qe,Qf,Qg,Qk,Ql,Qm,Qn,Qo,Qp,Qr,Q0,Q1,Q4,Q8,Q9,Ja,Jf,Jh,Ji,Jj,Jk,Jl,Jt,Jx,Jy,Jz,J0,J1,J2,J5,J6,J7,J8,J9,Xa,Xb,Xc,Xd,Xe,Xf,Xg,Xj,Xk,Xl,Xm,Xn,Xo,Xp,Xq,Xr,Xs,Xt,Xu,Xv,Xw,Xx,Xy,X1,X2,X3,X4,X5,X6,X7,X8,We,Wf,Wg,Wh,Wi,Wj,Wl,Wm,Wn,Wo,Wp,Ws,Wt,Wu,Wv,Ww,Wx,Wy,Wz,W0,W3,W4,W5,W6,W7,W8,W9,Ya,Yb,Yc,Yd,Ye,Yf,Yg,Yh,Yi,Yj,Yk,Yl,Ym,Yn,Yo,Yr,Ys,Yt,Yu,Yv,Yw,Yx,Yy,Yz,Y1,Y2,Y3,Y4,Y5,Y6,Y7,Y8,Y9,Va,Vb,Vc,Vd,Ve,Vf,Vg,Vh,Vi,Vj,Vk,Vl,Vm,Vn,Vo,Vp,Vq,Vr,Vs,Vt,Vu,Vv,Vw,Vx,Vy,Vz,V0,V1,V2,V3,V4,V5,V6,V7,V8,V9,Ua,Ub,Uc,Ud,Ue,Uf,Ug,Uh,Ui,Uj,Uk,Ul,Um,Un,Uo,Up,Uq,Ur,Us,Ut,Uu,Uv,U1,U2,U5,U6,U7,U8,U9,Ka,Kb,Kc,Kd,Ke,Kf,Kg,Kh,Ki,Kj,Kk,Kl,Km,Kn,Ko,Kq,Kr,Ks,Kt,Ku,Kv,Kw,Kx,Ky,Kz,K0,K1,K2,K3,K4,K5,K6,K7,Gg,Gi,Gj,Gk,Gl,Gm,Gn,Gr,Hg,Hc,Hb]
         tactic =>
          try simp only [G6] at *
          try simp only [nc2] at *
          try simp (maxSteps := 4000000) only [hlb,zz1,Gt,Gv,Gx,Gu,szN,Gw,Hi]
          repeat' (first | with_reducible assumption | with_reducible refine And.intro ?_ ?_ | intro _ | omega | (rw [Gy]; omega))
          · rename_i hz
            rw [if_pos hz] at he
            rw [e0]
            omega
          · rename_i hz
            rw [if_neg hz] at he
            exact ⟨(k + 1, o - 1 + Py (t.getD k ⟨0, [], 0⟩)), by ((try simp only [G3, Ha, G5, Hf, upd, Hh, Hn, Na, Nat.reduceDiv, Nat.reduceMod, Nat.reduceMul, Nat.reduceAdd, Nat.reduceEqDiff, List.set_cons_zero, List.set_cons_succ, if_true, if_false, reduceIte]); (first | refine Wk.of_fl ?_ | skip); simp only [Wk, wkK, Nd, wkT, wk1, AV.kept, keptAll, wkO, lk, G4, and_true, true_and, and_self, Nat.reduceEqDiff, Nat.reduceLeDiff, if_true, if_false, reduceIte, reduceCtorEq, Option.isSome, false_implies]; try simp [Wk, wkK, wkT, wk1, AV.kept, keptAll, wkO, lk, G4]), by simp only; omega, by simp only; omega, by simp only; omega, by simp only; omega, by simp only; omega, by simp only; omega⟩)
      · have hd : t.drop k = [] := List.drop_eq_nil_of_le hlt
        rw [hd, eat] at h5
        (sym =>
         simp [hlb,Gt,Gv,Gx,Gu,szN,Gw,ctx_End3_t,ctx_End3_c,ctx_End3_d,ctx_End3_b,ctx_End3_u,ctx_End3_w,N1.eq_def,Nz.eq_def,Za,Zb,Zc,Zd,Ze,Zf,Zg,Zn,Zo,Zp,Zq,Zr,Zs,Zt,Zv,Zy,Z5,Z8,Z9,Qa,Qb,Qc,Qd,Qe,Qf,Qg,Qk,Ql,Qm,Qn,Qo,Qp,Qr,Q0,Q1,Q4,Q8,Q9,Ja,Jf,Jh,Ji,Jj,Jk,Jl,Jt,Jx,Jy,Jz,J0,J1,J2,J5,J6,J7,J8,J9,Xa,Xb,Xc,Xd,Xe,Xf,Xg,Xj,Xk,Xl,Xm,Xn,Xo,Xp,Xq,Xr,Xs,Xt,Xu,Xv,Xw,Xx,Xy,X1,X2,X3,X4,X5,X6,X7,X8,We,Wf,Wg,Wh,Wi,Wj,Wl,Wm,Wn,Wo,Wp,Ws,Wt,Wu,Wv,Ww,Wx,Wy,Wz,W0,W3,W4,W5,W6,W7,W8,W9,Ya,Yb,Yc,Yd,Ye,Yf,Yg,Yh,Yi,Yj,Yk,Yl,Ym,Yn,Yo,Yr,Ys,Yt,Yu,Yv,Yw,Yx,Yy,Yz,Y1,Y2,Y3,Y4,Y5,Y6,Y7,Y8,Y9,Va,Vb,Vc,Vd,Ve,Vf,Vg,Vh,Vi,Vj,Vk,Vl,Vm,Vn,Vo,Vp,Vq,Vr,Vs,Vt,Vu,Vv,Vw,Vx,Vy,Vz,V0,V1,V2,V3,V4,V5,V6,V7,V8,V9,Ua,Ub,Uc,Ud,Ue,Uf,Ug,Uh,Ui,Uj,Uk,Ul,Um,Un,Uo,Up,Uq,Ur,Us,Ut,Uu,Uv,U1,U2,U5,U6,U7,U8,U9,Ka,Kb,Kc,Kd,Ke,Kf,Kg,Kh,Ki,Kj,Kk,Kl,Km,Kn,Ko,Kq,Kr,Ks,Kt,Ku,Kv,Kw,Kx,Ky,Kz,K0,K1,K2,K3,K4,K5,K6,K7,Gg,Gi,Gj,Gk,Gl,Gm,Gn,Gr,Hg,Hc,Hb]
         tactic =>
          try simp only [G6] at *
          try simp only [nc2] at *
          try simp (maxSteps := 4000000) only [hlb,Gt,Gv,Gx,Gu,szN,Gw,Hi]
          rw [e0]
          omega)
    · unfold end3
      rw [if_pos (.inl ‹_›)])
end Go.Am.Ty
set_option linter.unusedSimpArgs false
set_option linter.unusedVariables false
set_option maxHeartbeats 1000000
namespace Go.Am.Ty
open Go.Proofs
open Enc (enc dec)
theorem Ex {α : Type} {l : List α} {k : Nat} (d : α) (h : k < l.length) : l.take (k + 1) = l.take k ++ [l.getD k d] := by
  rw [List.take_succ_eq_append_getElem h]
  simp [h]
def Dg (t : List Node) : Bool := t.all fun n => n.kind != 8 && n.kind != 9
def M5 : Con := Sn (fun (t : Sl Node) => t.l.length ≤ 9223372036854775807) (fun t => Dg t.l)
noncomputable def Dx : Ctx := ⟨tab, lkC [], 60, lkB [], [], false⟩
theorem ctx_Plain3_t : Dx.τ = tab := rfl
theorem ctx_Plain3_c : Dx.Γ = lkC [] := rfl
theorem ctx_Plain3_d : Dx.dp = 60 := rfl
theorem ctx_Plain3_b : Dx.Δ = lkB [] := rfl
theorem ctx_Plain3_u : Dx.cuts = [] := rfl
theorem ctx_Plain3_w : Dx.wr = false := rfl
set_option maxRecDepth 100000 in
theorem good_Plain3 : M7 Try.prog (26, M5) := by
  refine ⟨He Try.func26 (by kernel_rfl) rfl, ?_⟩
  have K : Nh Try.prog Dx := Hl Ny Ht (by simp) (by simp)
  obtain ⟨c, hc⟩ : ∃ c, Try.f26.body = some c := ⟨_, rfl⟩
  refine Hm K Try.func26 hc [.tmp 2] rfl 24 rfl (fun cvs hpre => ?_)
  change M5.pre cvs at hpre
  unfold M5 at hpre
  obtain ⟨⟨t⟩, rfl, ht⟩ := Nw hpre
  simp only at ht
  simp only [Try.f26, Option.some.injEq] at hc
  subst hc
  (sym =>
   simp [Gt,Gv,Gx,Gu,szN,Gw,ctx_Plain3_t,ctx_Plain3_c,ctx_Plain3_d,ctx_Plain3_b,ctx_Plain3_u,ctx_Plain3_w,M5.eq_def,Za,Zb,Zc,Zd,Ze,Zf,Zg,Zn,Zo,Zp,Zq,Zr,Zs,Zt,Zv,Zx,Zy,Z5,Qa,Qb,Qc,Qg,Qk,Ql,Qm,Qn,Qo,Qp,Qr,Q0,Q1,Q4,Q8,Ja,Jf,Jh,Ji,Jj,Jk,Jl,Jt,Jy,Jz,J0,J1,J2,J5,J6,Xj,Xk,Xl,Xm,Xn,Xo,Xp,Xq,Xr,Xs,Xt,Xu,Xv,Xy,X1,X2,X3,X4,X5,X6,X7,X8,We,Wf,Wg,Wh,Wi,Wj,Wl,Wm,Wn,Wo,Wp,Ws,Wt,Wu,Wv,Ww,Wx,Wy,Wz,W0,W3,W4,W5,W6,W7,W8,W9,Ya,Yb,Yc,Yd,Ye,Yf,Yg,Yh,Yi,Yj,Yk,Yl,Ym,Yn,Yo,Yu,Yv,Yw,Yx,Yy,Yz,Y1,Y2,Y3,Y4,Y5,Y6,Y7,Y8,Y9,Va,Vb,Vc,Vd,Ve,Vf,Vg,Vh,Vi,Vj,Vk,Vl,Vm,Vn,Vo,Vp,Vq,Vr,Vs,Vt,Vu,Vv,Vw,Vx,Vy,Vz,V0,V1,V2,V3,V4,V5,V6,V7,V8,V9,Ua,Ub,Uc,Ud,Ue,Uf,Ug,Uh,Ui,Uj,Uk,Ul,Um,Un,Uo,Up,Uq,Ur,Us,Ut,Uu,Uv,U1,U2,U5,U6,U7,U8,U9,Ka,Kb,Kc,Kd,Ke,Kf,Kg,Kh,Ki,Kj,Kk,Kl,Km,Kn,Ko,Kq,Kr,Ks,Kt,Ku,Kv,Kw,Kx,Ky,Kz,K0,K1,K2,K3,K4,K5,K6,K7,Gg,Gi,Gj,Gk,Gl,Gm,Gn,Gr,Hg,Hc,Hb]
   tactic =>
    try simp only [G6] at *
    try simp only [nc2] at *
    try simp (maxSteps := 4000000) only [Gt,Gv,Gx,Gu,szN,Gw,Hi]
    refine Ho [2, 4, 5, 6, 7, 8, 9, 10, 11, 12, 13, 14, 15, 16, 17, 18, 19, 20, 21, 22, 23] (fun k : Nat => [(3, .d (.int .i64 k))]) (fun k : Nat => []) (fun k : Nat => k ≤ t.length ∧ ∀ j, j < k → ((t.getD j ⟨0, [], 0⟩).kind != 8 && (t.getD j ⟨0, [], 0⟩).kind != 9) = true) (fun k : Nat => t.length - k) 0 ?_ ?_ ?_
    · simp
    · ((try simp only [G3, Ha, G5, Hf, upd, Hh, Hn, Na, Nat.reduceDiv, Nat.reduceMod, Nat.reduceMul, Nat.reduceAdd, Nat.reduceEqDiff, List.set_cons_zero, List.set_cons_succ, if_true, if_false, reduceIte]); (first | refine Wk.of_fl ?_ | skip); simp only [Wk, wkK, Nd, wkT, wk1, AV.kept, keptAll, wkO, lk, G4, and_true, true_and, and_self, Nat.reduceEqDiff, Nat.reduceLeDiff, if_true, if_false, reduceIte, reduceCtorEq, Option.isSome, false_implies]; try simp [Wk, wkK, wkT, wk1, AV.kept, keptAll, wkO, lk, G4])
    rintro k ⟨hk, hno⟩
    rcases Hq k t.length with ⟨hlt, hlb⟩ | ⟨hlt, hlb⟩
    · have zz1 := H7 (⟨0, [], 0⟩ : Node) hlt
      (sym =>
       simp [hlb,zz1,Gt,Gv,Gx,Gu,szN,Gw,ctx_Plain3_t,ctx_Plain3_c,ctx_Plain3_d,ctx_Plain3_b,ctx_Plain3_u,ctx_Plain3_w,M5.eq_def,Za,Zb,Zc,Zd,Ze,Zf,Zg,Zn,Zo,Zp,Zq,Zr,Zs,Zt,Zv,Zx,Zy,Z5,Qa,Qb,Qc,Qg,Qk,Ql,Qm,Qn,Qo,Qp,Qr,Q0,Q1,Q4,Q8,Ja,Jf,Jh,Ji,Jj,Jk,Jl,Jt,Jy,Jz,J0,J1,J2,J5,J6,Xj,Xk,Xl,Xm,Xn,Xo,Xp,Xq,Xr,Xs,Xt,Xu,Xv,Xy,X1,X2,X3,X4,X5,X6,X7,X8,We,Wf,Wg,Wh,Wi,Wj,Wl,Wm,Wn,Wo,Wp,Ws,Wt,Wu,Wv,Ww,Wx,Wy,Wz,W0,W3,W4,W5,W6,W7,W8,W9,Ya,Yb,Yc,Yd,Ye,Yf,Yg,Yh,Yi,Yj,Yk,Yl,Ym,Yn,Yo,Yu,Yv,Yw,Yx,Yy,Yz,Y1,Y2,Y3,Y4,Y5,Y6,Y7,Y8,Y9,Va,Vb,Vc,Vd,Ve,Vf,Vg,Vh,Vi,Vj,Vk,Vl,Vm,Vn,Vo,Vp,Vq,Vr,Vs,Vt,Vu,Vv,Vw,Vx,Vy,Vz,V0,V1,V2,V3,V4,V5,V6,V7,V8,V9,Ua,Ub,Uc,Ud,Ue,Uf,Ug,Uh,Ui,Uj,Uk,Ul,Um,Un,Uo,Up,Uq,Ur,Us,Ut,Uu,Uv,U1,U2,U5,U6,U7,U8,U9,Ka,Kb,Kc,Kd,Ke,Kf,Kg,Kh,Ki,Kj,Kk,Kl,Km,Kn,Ko,Kq,Kr,Ks,Kt,Ku,Kv,Kw,Kx,Ky,Kz,K0,K1,K2,K3,K4,K5,K6,K7,Gg,Gi,Gj,Gk,Gl,Gm,Gn,Gr,Hg,Hc,Hb]
       tactic =>
        try simp only [G6] at *
        try simp only [nc2] at *
        try simp (maxSteps := 4000000) only [hlb,zz1,Gt,Gv,Gx,Gu,szN,Gw,Hi]
        have hbad : ((t.getD k ⟨0, [], 0⟩).kind != 8 && (t.getD k ⟨0, [], 0⟩).kind != 9) = false → false = Dg t := by
          intro h
          unfold Dg
          rw [Iz (p := fun n : Node => n.kind != 8 && n.kind != 9) ⟨0, [], 0⟩ k hlt h]
        repeat' (first | with_reducible assumption | with_reducible refine And.intro ?_ ?_ | intro _ | omega | (rw [Gy]; omega))
        · rename_i h8 h9
          exact hbad (by rw [h9]; simp)
        · rename_i h8 h9
          refine ⟨k + 1, by ((try simp only [G3, Ha, G5, Hf, upd, Hh, Hn, Na, Nat.reduceDiv, Nat.reduceMod, Nat.reduceMul, Nat.reduceAdd, Nat.reduceEqDiff, List.set_cons_zero, List.set_cons_succ, if_true, if_false, reduceIte]); (first | refine Wk.of_fl ?_ | skip); simp only [Wk, wkK, Nd, wkT, wk1, AV.kept, keptAll, wkO, lk, G4, and_true, true_and, and_self, Nat.reduceEqDiff, Nat.reduceLeDiff, if_true, if_false, reduceIte, reduceCtorEq, Option.isSome, false_implies]; try simp [Wk, wkK, wkT, wk1, AV.kept, keptAll, wkO, lk, G4]), by omega, fun j hj => ?_, by omega⟩
          by_cases hjk : j = k
          · subst hjk; simp only [bne_iff_ne, ne_eq, Bool.and_eq_true]; exact ⟨h8, h9⟩
          · exact hno j (by omega)
        · rename_i h8
          exact hbad (by rw [h8]; simp))
    · (sym =>
       simp [hlb,Gt,Gv,Gx,Gu,szN,Gw,ctx_Plain3_t,ctx_Plain3_c,ctx_Plain3_d,ctx_Plain3_b,ctx_Plain3_u,ctx_Plain3_w,M5.eq_def,Za,Zb,Zc,Zd,Ze,Zf,Zg,Zn,Zo,Zp,Zq,Zr,Zs,Zt,Zv,Zx,Zy,Z5,Qa,Qb,Qc,Qg,Qk,Ql,Qm,Qn,Qo,Qp,Qr,Q0,Q1,Q4,Q8,Ja,Jf,Jh,Ji,Jj,Jk,Jl,Jt,Jy,Jz,J0,J1,J2,J5,J6,Xj,Xk,Xl,Xm,Xn,Xo,Xp,Xq,Xr,Xs,Xt,Xu,Xv,Xy,X1,X2,X3,X4,X5,X6,X7,X8,We,Wf,Wg,Wh,Wi,Wj,Wl,Wm,Wn,Wo,Wp,Ws,Wt,Wu,Wv,Ww,Wx,Wy,Wz,W0,W3,W4,W5,W6,W7,W8,W9,Ya,Yb,Yc,Yd,Ye,Yf,Yg,Yh,Yi,Yj,Yk,Yl,Ym,Yn,Yo,Yu,Yv,Yw,Yx,Yy,Yz,Y1,Y2,Y3,Y4,Y5,Y6,Y7,Y8,Y9,Va,Vb,Vc,Vd,Ve,Vf,Vg,Vh,Vi,Vj,Vk,Vl,Vm,Vn,Vo,Vp,Vq,Vr,Vs,Vt,Vu,Vv,Vw,Vx,Vy,Vz,V0,V1,V2,V3,V4,V5,V6,V7,V8,V9,Ua,Ub,Uc,Ud,Ue,Uf,Ug,Uh,Ui,Uj,Uk,Ul,Um,Un,Uo,Up,Uq,Ur,Us,Ut,Uu,Uv,U1,U2,U5,U6,U7,U8,U9,Ka,Kb,Kc,Kd,Ke,Kf,Kg,Kh,Ki,Kj,Kk,Kl,Km,Kn,Ko,Kq,Kr,Ks,Kt,Ku,Kv,Kw,Kx,Ky,Kz,K0,K1,K2,K3,K4,K5,K6,K7,Gg,Gi,Gj,Gk,Gl,Gm,Gn,Gr,Hg,Hc,Hb]
       tactic =>
        try simp only [G6] at *
        try simp only [nc2] at *
        try simp (maxSteps := 4000000) only [hlb,Gt,Gv,Gx,Gu,szN,Gw,Hi]
        unfold Dg
        rw [Eb (p := fun n : Node => n.kind != 8 && n.kind != 9) ⟨0, [], 0⟩ fun j hj => hno j (by omega)]))
def Ma : Con := C0 (fun (a b : Sl Node) => a.l.length ≤ 9223372036854775807 ∧ b.l.length ≤ 9223372036854775807) (fun a b => a.l == b.l)
noncomputable def Av : Ctx := ⟨tab, lkC [], 60, lkB [], [], false⟩
theorem ctx_One3_t : Av.τ = tab := rfl
theorem ctx_One3_c : Av.Γ = lkC [] := rfl
theorem ctx_One3_d : Av.dp = 60 := rfl
theorem ctx_One3_b : Av.Δ = lkB [] := rfl
theorem ctx_One3_u : Av.cuts = [] := rfl
theorem ctx_One3_w : Av.wr = false := rfl
set_option maxRecDepth 100000 in
theorem good_One3 : M7 Try.prog (17, Ma) := by
  refine ⟨He Try.func17 (by kernel_rfl) rfl, ?_⟩
  have K : Nh Try.prog Av := Hl Ny Ht (by simp) (by simp)
  obtain ⟨c, hc⟩ : ∃ c, Try.f17.body = some c := ⟨_, rfl⟩
  refine Hm K Try.func17 hc [.tmp 4] rfl 26 rfl (fun cvs hpre => ?_)
  change Ma.pre cvs at hpre
  unfold Ma at hpre
  obtain ⟨⟨a⟩, ⟨b⟩, rfl, ha, hb⟩ := Mp hpre
  simp only at ha hb
  simp only [Try.f17, Option.some.injEq] at hc
  subst hc
  (sym =>
   simp [Gt,Gv,Gx,Gu,szN,Gw,ctx_One3_t,ctx_One3_c,ctx_One3_d,ctx_One3_b,ctx_One3_u,ctx_One3_w,Ma.eq_def,Za,Zb,Zc,Ze,Zf,Zg,Zh,Zi,Zj,Zk,Zl,Zm,Zn,Zo,Zp,Zq,Zr,Zs,Zv,Zy,Z5,Qa,Qb,Qc,Qg,Qk,Ql,Qm,Qn,Qo,Qp,Qq,Qr,Qx,Qy,Qz,Q0,Q1,Q4,Q5,Q6,Q8,Ja,Jf,Jh,Ji,Jj,Jk,Jl,Js,Jt,Jy,Jz,J0,J1,J2,J5,J6,Xj,Xk,Xl,Xm,Xn,Xo,Xp,Xq,Xr,Xs,Xt,Xu,Xv,Xy,X1,X2,X3,X4,X5,X6,X7,X8,X9,Wa,Wb,Wc,Wd,We,Wf,Wg,Wh,Wi,Wj,Wl,Wm,Wn,Wo,Wp,Wq,Wr,Ws,Wt,Wu,Wv,Ww,Wx,Wy,Wz,W0,W3,W4,W5,W6,W7,W8,W9,Ya,Yb,Yc,Yd,Ye,Yf,Yg,Yh,Yi,Yj,Yk,Yl,Ym,Yn,Yo,Yu,Yv,Yw,Yx,Yy,Yz,Y1,Y2,Y3,Y4,Y5,Y6,Y7,Y8,Y9,Va,Vb,Vc,Vd,Ve,Vf,Vg,Vh,Vi,Vj,Vk,Vl,Vm,Vn,Vo,Vp,Vq,Vr,Vs,Vt,Vu,Vv,Vw,Vx,Vy,Vz,V0,V1,V2,V3,V4,V5,V6,V7,V8,V9,Ua,Ub,Uc,Ud,Ue,Uf,Ug,Uh,Ui,Uj,Uk,Ul,Um,Un,Uo,Up,Uq,Ur,Us,Ut,Uu,Uv,U1,U2,U5,U6,U7,U8,U9,Ka,Kb,Kc,Kd,Ke,Kf,Kg,Kh,Ki,Kj,Kk,Kl,Km,Kn,Ko,Kq,Kr,Ks,Kt,Ku,Kv,Kw,Kx,Ky,Kz,K0,K1,K2,K3,K4,K5,K6,K7,Gg,Gi,Gj,Gk,Gl,Gm,Gn,Gr,Gs,Hg,Hc,Hb]
   tactic =>
    try simp only [G6] at *
    try simp only [nc2] at *
    try simp (maxSteps := 4000000) only [Gt,Gv,Gx,Gu,szN,Gw,Hi]
    refine ⟨fun hne => ?_, fun heq => ?_⟩
    · symm
      rw [beq_eq_false_iff_ne]
      intro h
      exact hne (by rw [h])
    have hlen : a.length = b.length := by omega
    refine Ho [4, 11, 12, 13, 14, 15, 16, 17, 18, 19, 20, 21, 22, 23, 24, 25] (fun k : Nat => [(5, .d (.int .i64 k))]) (fun k : Nat => []) (fun k : Nat => k ≤ a.length ∧ ∀ j, j < k → a.getD j ⟨0, [], 0⟩ = b.getD j ⟨0, [], 0⟩) (fun k : Nat => a.length - k) 0 ?_ ?_ ?_
    · simp
    · ((try simp only [G3, Ha, G5, Hf, upd, Hh, Hn, Na, Nat.reduceDiv, Nat.reduceMod, Nat.reduceMul, Nat.reduceAdd, Nat.reduceEqDiff, List.set_cons_zero, List.set_cons_succ, if_true, if_false, reduceIte]); (first | refine Wk.of_fl ?_ | skip); simp only [Wk, wkK, Nd, wkT, wk1, AV.kept, keptAll, wkO, lk, G4, and_true, true_and, and_self, Nat.reduceEqDiff, Nat.reduceLeDiff, if_true, if_false, reduceIte, reduceCtorEq, Option.isSome, false_implies]; try simp [Wk, wkK, wkT, wk1, AV.kept, keptAll, wkO, lk, G4])
    rintro k ⟨hk, hno⟩
    rcases Hq k a.length with ⟨hlt, hlb⟩ | ⟨hlt, hlb⟩
    · have zz2 := H7 (⟨0, [], 0⟩ : Node) hlt
      have zz3 := H7 (⟨0, [], 0⟩ : Node) (show k < b.length by omega)
      (sym =>
       simp [hlb,zz2,zz3,Gt,Gv,Gx,Gu,szN,Gw,ctx_One3_t,ctx_One3_c,ctx_One3_d,ctx_One3_b,ctx_One3_u,ctx_One3_w,Ma.eq_def,Za,Zb,Zc,Ze,Zf,Zg,Zh,Zi,Zj,Zk,Zl,Zm,Zn,Zo,Zp,Zq,Zr,Zs,Zv,Zy,Z5,Qa,Qb,Qc,Qg,Qk,Ql,Qm,Qn,Qo,Qp,Qq,Qr,Qx,Qy,Qz,Q0,Q1,Q4,Q5,Q6,Q8,Ja,Jf,Jh,Ji,Jj,Jk,Jl,Js,Jt,Jy,Jz,J0,J1,J2,J5,J6,Xj,Xk,Xl,Xm,Xn,Xo,Xp,Xq,Xr,Xs,Xt,Xu,Xv,Xy,X1,X2,X3,X4,X5,X6,X7,X8,X9,Wa,Wb,Wc,Wd,We,Wf,Wg,Wh,Wi,Wj,Wl,Wm,Wn,Wo,Wp,Wq,Wr,Ws,Wt,Wu,Wv,Ww,Wx,Wy,Wz,W0,W3,W4,W5,W6,W7,W8,W9,Ya,Yb,Yc,Yd,Ye,Yf,Yg,Yh,Yi,Yj,Yk,Yl,Ym,Yn,Yo,Yu,Yv,Yw,Yx,Yy,Yz,Y1,Y2,Y3,Y4,Y5,Y6,Y7,Y8,Y9,Va,Vb,Vc,Vd,Ve,Vf,Vg,Vh,Vi,Vj,Vk,Vl,Vm,Vn,Vo,Vp,Vq,Vr,Vs,Vt,Vu,Vv,Vw,Vx,Vy,Vz,V0,V1,V2,V3,V4,V5,V6,V7,V8,V9,Ua,Ub,Uc,Ud,Ue,Uf,Ug,Uh,Ui,Uj,Uk,Ul,Um,Un,Uo,Up,Uq,Ur,Us,Ut,Uu,Uv,U1,U2,U5,U6,U7,U8,U9,Ka,Kb,Kc,Kd,Ke,Kf,Kg,Kh,Ki,Kj,Kk,Kl,Km,Kn,Ko,Kq,Kr,Ks,Kt,Ku,Kv,Kw,Kx,Ky,Kz,K0,K1,K2,K3,K4,K5,K6,K7,Gg,Gi,Gj,Gk,Gl,Gm,Gn,Gr,Gs,Hg,Hc,Hb]
       tactic =>
        try simp only [G6] at *
        try simp only [nc2] at *
        try simp (maxSteps := 4000000) only [hlb,zz2,zz3,Gt,Gv,Gx,Gu,szN,Gw,Hi]
        repeat' (first | with_reducible assumption | with_reducible refine And.intro ?_ ?_ | intro _ | omega | (rw [Gy]; omega))
        · kernel_rfl
        · rename_i h
          symm
          rw [beq_eq_false_iff_ne]
          intro e
          exact h (by rw [e])
        · rename_i h
          refine ⟨k + 1, by ((try simp only [G3, Ha, G5, Hf, upd, Hh, Hn, Na, Nat.reduceDiv, Nat.reduceMod, Nat.reduceMul, Nat.reduceAdd, Nat.reduceEqDiff, List.set_cons_zero, List.set_cons_succ, if_true, if_false, reduceIte]); (first | refine Wk.of_fl ?_ | skip); simp only [Wk, wkK, Nd, wkT, wk1, AV.kept, keptAll, wkO, lk, G4, and_true, true_and, and_self, Nat.reduceEqDiff, Nat.reduceLeDiff, if_true, if_false, reduceIte, reduceCtorEq, Option.isSome, false_implies]; try simp [Wk, wkK, wkT, wk1, AV.kept, keptAll, wkO, lk, G4]), by omega, fun j hj => ?_, by omega⟩
          by_cases hjk : j = k
          · subst hjk; exact h
          · exact hno j (by omega))
    · (sym =>
       simp [hlb,Gt,Gv,Gx,Gu,szN,Gw,ctx_One3_t,ctx_One3_c,ctx_One3_d,ctx_One3_b,ctx_One3_u,ctx_One3_w,Ma.eq_def,Za,Zb,Zc,Ze,Zf,Zg,Zh,Zi,Zj,Zk,Zl,Zm,Zn,Zo,Zp,Zq,Zr,Zs,Zv,Zy,Z5,Qa,Qb,Qc,Qg,Qk,Ql,Qm,Qn,Qo,Qp,Qq,Qr,Qx,Qy,Qz,Q0,Q1,Q4,Q5,Q6,Q8,Ja,Jf,Jh,Ji,Jj,Jk,Jl,Js,Jt,Jy,Jz,J0,J1,J2,J5,J6,Xj,Xk,Xl,Xm,Xn,Xo,Xp,Xq,Xr,Xs,Xt,Xu,Xv,Xy,X1,X2,X3,X4,X5,X6,X7,X8,X9,Wa,Wb,Wc,Wd,We,Wf,Wg,Wh,Wi,Wj,Wl,Wm,Wn,Wo,Wp,Wq,Wr,Ws,Wt,Wu,Wv,Ww,Wx,Wy,Wz,W0,W3,W4,W5,W6,W7,W8,W9,Ya,Yb,Yc,Yd,Ye,Yf,Yg,Yh,Yi,Yj,Yk,Yl,Ym,Yn,Yo,Yu,Yv,Yw,Yx,Yy,Yz,Y1,Y2,Y3,Y4,Y5,Y6,Y7,Y8,Y9,Va,Vb,Vc,Vd,Ve,Vf,Vg,Vh,Vi,Vj,Vk,Vl,Vm,Vn,Vo,Vp,Vq,Vr,Vs,Vt,Vu,Vv,Vw,Vx,Vy,Vz,V0,V1,V2,V3,V4,V5,V6,V7,V8,V9,Ua,Ub,Uc,Ud,Ue,Uf,Ug,Uh,Ui,Uj,Uk,Ul,Um,Un,Uo,Up,Uq,Ur,Us,Ut,Uu,Uv,U1,U2,U5,U6,U7,U8,U9,Ka,Kb,Kc,Kd,Ke,Kf,Kg,Kh,Ki,Kj,Kk,Kl,Km,Kn,Ko,Kq,Kr,Ks,Kt,Ku,Kv,Kw,Kx,Ky,Kz,K0,K1,K2,K3,K4,K5,K6,K7,Gg,Gi,Gj,Gk,Gl,Gm,Gn,Gr,Gs,Hg,Hc,Hb]
       tactic =>
        try simp only [G6] at *
        try simp only [nc2] at *
        try simp (maxSteps := 4000000) only [hlb,Gt,Gv,Gx,Gu,szN,Gw,Hi]
        symm
        rw [beq_iff_eq]
        refine List.ext_getElem hlen fun j h1 h2 => ?_
        have := hno j (by omega)
        simpa [h1, h2] using this))
def norm (n : Node) : Node := if n.kind = 0 then { n with n := 0 } else n
def same3 (a b : List Node) : Bool := a.map norm == b.map norm
def Lm : Con := C0 (fun (a b : Sl Node) => a.l.length ≤ 9223372036854775807 ∧ b.l.length ≤ 9223372036854775807) (fun a b => same3 a.l b.l)
noncomputable def Ff : Ctx := ⟨tab, lkC [], 60, lkB [], [], false⟩
theorem ctx_Same3_t : Ff.τ = tab := rfl
theorem ctx_Same3_c : Ff.Γ = lkC [] := rfl
theorem ctx_Same3_d : Ff.dp = 60 := rfl
theorem ctx_Same3_b : Ff.Δ = lkB [] := rfl
theorem ctx_Same3_u : Ff.cuts = [] := rfl
theorem ctx_Same3_w : Ff.wr = false := rfl
set_option maxRecDepth 100000 in
theorem good_Same3 : M7 Try.prog (56, Lm) := by
  refine ⟨He Try.func56 (by kernel_rfl) rfl, ?_⟩
  have K : Nh Try.prog Ff := Hl Ny Ht (by simp) (by simp)
  obtain ⟨c, hc⟩ : ∃ c, Try.f56.body = some c := ⟨_, rfl⟩
  refine Hm K Try.func56 hc [.tmp 4] rfl 38 rfl (fun cvs hpre => ?_)
  change Lm.pre cvs at hpre
  unfold Lm at hpre
  obtain ⟨⟨a⟩, ⟨b⟩, rfl, ha, hb⟩ := Mp hpre
  simp only at ha hb
  simp only [Try.f56, Option.some.injEq] at hc
  subst hc
  refine Mn 2 (of_decide_eq_true (by kernel_rfl)) ?_
  (sym =>
   simp [Gt,Gv,Gx,Gu,szN,Gw,ctx_Same3_t,ctx_Same3_c,ctx_Same3_d,ctx_Same3_b,ctx_Same3_u,ctx_Same3_w,Lm.eq_def,Za,Zb,Zc,Ze,Zf,Zg,Zh,Zi,Zj,Zk,Zl,Zm,Zn,Zo,Zp,Zq,Zr,Zs,Zu,Zv,Zw,Zx,Zy,Z5,Qa,Qb,Qc,Qg,Qj,Qk,Ql,Qm,Qn,Qo,Qp,Qq,Qr,Qx,Qy,Qz,Q0,Q1,Q4,Q5,Q6,Q8,Ja,Jf,Jh,Ji,Jj,Jk,Jl,Js,Jt,Jx,Jy,Jz,J0,J1,J2,J5,J6,J7,J8,J9,Xa,Xb,Xc,Xd,Xe,Xf,Xg,Xj,Xk,Xl,Xm,Xn,Xo,Xp,Xq,Xr,Xs,Xt,Xu,Xv,Xw,Xx,Xy,Xz,X1,X2,X3,X4,X5,X6,X7,X8,X9,Wa,Wb,Wc,Wd,We,Wf,Wg,Wh,Wi,Wj,Wl,Wm,Wn,Wo,Wp,Wq,Wr,Ws,Wt,Wu,Wv,Ww,Wx,Wy,Wz,W0,W3,W4,W5,W6,W7,W8,W9,Ya,Yb,Yc,Yd,Ye,Yf,Yg,Yh,Yi,Yj,Yk,Yl,Ym,Yn,Yo,Yr,Ys,Yt,Yu,Yv,Yw,Yx,Yy,Yz,Y1,Y2,Y3,Y4,Y5,Y6,Y7,Y8,Y9,Va,Vb,Vc,Vd,Ve,Vf,Vg,Vh,Vi,Vj,Vk,Vl,Vm,Vn,Vo,Vp,Vq,Vr,Vs,Vt,Vu,Vv,Vw,Vx,Vy,Vz,V0,V1,V2,V3,V4,V5,V6,V7,V8,V9,Ua,Ub,Uc,Ud,Ue,Uf,Ug,Uh,Ui,Uj,Uk,Ul,Um,Un,Uo,Up,Uq,Ur,Us,Ut,Uu,Uv,Uw,Ux,Uy,Uz,U0,U1,U2,U5,U6,U7,U8,U9,Ka,Kb,Kc,Kd,Ke,Kf,Kg,Kh,Ki,Kj,Kk,Kl,Km,Kn,Ko,Kq,Kr,Ks,Kt,Ku,Kv,Kw,Kx,Ky,Kz,K0,K1,K2,K3,K4,K5,K6,K7,Gg,Gi,Gj,Gk,Gl,Gm,Gn,Gr,Gs,Hg,Hc,Hb]
   tactic =>
    try simp only [G6] at *
    try simp only [nc2] at *
    try simp (maxSteps := 4000000) only [Gt,Gv,Gx,Gu,szN,Gw,Hi]
    refine ⟨fun hne => ?_, fun heq => ?_⟩
    · symm
      unfold same3
      rw [beq_eq_false_iff_ne]
      intro h
      have := congrArg List.length h
      rw [List.length_map, List.length_map] at this
      exact hne (by rw [this])
    have hlen : a.length = b.length := by omega
    refine Ho [4, 6, 7, 13, 14, 15, 16, 17, 18, 19, 20, 21, 22, 23, 24, 25, 26, 27, 28, 29, 30, 31, 32, 33, 34, 35, 36, 37] (fun k : Nat => [(5, .d (.int .i64 k))]) (fun k : Nat => []) (fun k : Nat => k ≤ a.length ∧ ∀ j, j < k → norm (a.getD j ⟨0, [], 0⟩) = norm (b.getD j ⟨0, [], 0⟩)) (fun k : Nat => a.length - k) 0 ?_ ?_ ?_
    · simp
    · ((try simp only [G3, Ha, G5, Hf, upd, Hh, Hn, Na, Nat.reduceDiv, Nat.reduceMod, Nat.reduceMul, Nat.reduceAdd, Nat.reduceEqDiff, List.set_cons_zero, List.set_cons_succ, if_true, if_false, reduceIte]); (first | refine Wk.of_fl ?_ | skip); simp only [Wk, wkK, Nd, wkT, wk1, AV.kept, keptAll, wkO, lk, G4, and_true, true_and, and_self, Nat.reduceEqDiff, Nat.reduceLeDiff, if_true, if_false, reduceIte, reduceCtorEq, Option.isSome, false_implies]; try simp [Wk, wkK, wkT, wk1, AV.kept, keptAll, wkO, lk, G4])
    rintro k ⟨hk, hno⟩
    rcases Hq k a.length with ⟨hlt, hlb⟩ | ⟨hlt, hlb⟩
    · have hyes : norm (a.getD k ⟨0, [], 0⟩) = norm (b.getD k ⟨0, [], 0⟩) → ∀ j, j < k + 1 → norm (a.getD j ⟨0, [], 0⟩) = norm (b.getD j ⟨0, [], 0⟩) := by
        intro h j hj
        by_cases hjk : j = k
        · subst hjk; exact h
        · exact hno j (by omega)
      have hbad : norm (a.getD k ⟨0, [], 0⟩) ≠ norm (b.getD k ⟨0, [], 0⟩) → false = same3 a b := by
        intro h
        symm
        unfold same3
        rw [beq_eq_false_iff_ne]
        intro e
        apply h
        have h1 : (a.map norm).getD k ⟨0, [], 0⟩ = (b.map norm).getD k ⟨0, [], 0⟩ := by rw [e]
        simpa [hlt, show k < b.length by omega] using h1
      have zz4 := H7 (⟨0, [], 0⟩ : Node) hlt
      have zz5 := H7 (⟨0, [], 0⟩ : Node) (show k < b.length by omega)
      (sym =>
       simp [hlb,zz4,zz5,Gt,Gv,Gx,Gu,szN,Gw,ctx_Same3_t,ctx_Same3_c,ctx_Same3_d,ctx_Same3_b,ctx_Same3_u,ctx_Same3_w,Lm.eq_def,Za,Zb,Zc,Ze,Zf,Zg,Zh,Zi,Zj,Zk,Zl,Zm,Zn,Zo,Zp,Zq,Zr,Zs,Zu,Zv,Zw,Zx,Zy,Z5,Qa,Qb,Qc,Qg,Qj,Qk,Ql,Qm,Qn,Qo,Qp,Qq,Qr,Qx,Qy,Qz,Q0,Q1,Q4,Q5,Q6,Q8,Ja,Jf,Jh,Ji,Jj,Jk,Jl,Js,Jt,Jx,Jy,Jz,J0,J1,J2,J5,J6,J7,J8,J9,Xa,Xb,Xc,Xd,Xe,Xf,Xg,Xj,Xk,Xl,Xm,Xn,Xo,Xp,Xq,Xr,Xs,Xt,Xu,Xv,Xw,Xx,Xy,Xz,X1,X2,X3,X4,X5,X6,X7,X8,X9,Wa,Wb,Wc,Wd,We,Wf,Wg,Wh,Wi,Wj,Wl,Wm,Wn,Wo,Wp,Wq,Wr,Ws,Wt,Wu,Wv,Ww,Wx,Wy,Wz,W0,W3,W4,W5,W6,W7,W8,W9,Ya,Yb,Yc,Yd,Ye,Yf,Yg,Yh,Yi,Yj,Yk,Yl,Ym,Yn,Yo,Yr,Ys,Yt,Yu,Yv,Yw,Yx,Yy,Yz,Y1,Y2,Y3,Y4,Y5,Y6,Y7,Y8,Y9,Va,Vb,Vc,Vd,Ve,Vf,Vg,Vh,Vi,Vj,Vk,Vl,Vm,Vn,Vo,Vp,Vq,Vr,Vs,Vt,Vu,Vv,Vw,Vx,Vy,Vz,V0,V1,V2,V3,V4,V5,V6,V7,V8,V9,Ua,Ub,Uc,Ud,Ue,Uf,Ug,Uh,Ui,Uj,Uk,Ul,Um,Un,Uo,Up,Uq,Ur,Us,Ut,Uu,Uv,Uw,Ux,Uy,Uz,U0,U1,U2,U5,U6,U7,U8,U9,Ka,Kb,Kc,Kd,Ke,Kf,Kg,Kh,Ki,Kj,Kk,Kl,Km,Kn,Ko,Kq,Kr,Ks,Kt,Ku,Kv,Kw,Kx,Ky,Kz,K0,K1,K2,K3,K4,K5,K6,K7,Gg,Gi,Gj,Gk,Gl,Gm,Gn,Gr,Gs,Hg,Hc,Hb]
       tactic =>
        try simp only [G6] at *
        try simp only [nc2] at *
        try simp (maxSteps := 4000000) only [hlb,zz4,zz5,Gt,Gv,Gx,Gu,szN,Gw,Hi]
        revert hyes hbad
        generalize a.getD k ⟨0, [], 0⟩ = x
        generalize b.getD k ⟨0, [], 0⟩ = y
        intro hyes hbad
        repeat' (first | with_reducible assumption | with_reducible refine And.intro ?_ ?_ | intro _ | omega | (rw [Gy]; omega))
        · kernel_rfl
        all_goals first
          | (refine hbad (fun e => ?_); revert e; clear hyes hbad hno; cases x; cases y; simp_all [norm]; done)
          | exact ⟨k + 1, by ((try simp only [G3, Ha, G5, Hf, upd, Hh, Hn, Na, Nat.reduceDiv, Nat.reduceMod, Nat.reduceMul, Nat.reduceAdd, Nat.reduceEqDiff, List.set_cons_zero, List.set_cons_succ, if_true, if_false, reduceIte]); (first | refine Wk.of_fl ?_ | skip); simp only [Wk, wkK, Nd, wkT, wk1, AV.kept, keptAll, wkO, lk, G4, and_true, true_and, and_self, Nat.reduceEqDiff, Nat.reduceLeDiff, if_true, if_false, reduceIte, reduceCtorEq, Option.isSome, false_implies]; try simp [Wk, wkK, wkT, wk1, AV.kept, keptAll, wkO, lk, G4]), by omega, hyes (by clear hyes hbad hno; cases x; cases y; simp_all [norm]), by omega⟩)
    · (sym =>
       simp [hlb,Gt,Gv,Gx,Gu,szN,Gw,ctx_Same3_t,ctx_Same3_c,ctx_Same3_d,ctx_Same3_b,ctx_Same3_u,ctx_Same3_w,Lm.eq_def,Za,Zb,Zc,Ze,Zf,Zg,Zh,Zi,Zj,Zk,Zl,Zm,Zn,Zo,Zp,Zq,Zr,Zs,Zu,Zv,Zw,Zx,Zy,Z5,Qa,Qb,Qc,Qg,Qj,Qk,Ql,Qm,Qn,Qo,Qp,Qq,Qr,Qx,Qy,Qz,Q0,Q1,Q4,Q5,Q6,Q8,Ja,Jf,Jh,Ji,Jj,Jk,Jl,Js,Jt,Jx,Jy,Jz,J0,J1,J2,J5,J6,J7,J8,J9,Xa,Xb,Xc,Xd,Xe,Xf,Xg,Xj,Xk,Xl,Xm,Xn,Xo,Xp,Xq,Xr,Xs,Xt,Xu,Xv,Xw,Xx,Xy,Xz,X1,X2,X3,X4,X5,X6,X7,X8,X9,Wa,Wb,Wc,Wd,We,Wf,Wg,Wh,Wi,Wj,Wl,Wm,Wn,Wo,Wp,Wq,Wr,Ws,Wt,Wu,Wv,Ww,Wx,Wy,Wz,W0,W3,W4,W5,W6,W7,W8,W9,Ya,Yb,Yc,Yd,Ye,Yf,Yg,Yh,Yi,Yj,Yk,Yl,Ym,Yn,Yo,Yr,Ys,Yt,Yu,Yv,Yw,Yx,Yy,Yz,Y1,Y2,Y3,Y4,Y5,Y6,Y7,Y8,Y9,Va,Vb,Vc,Vd,Ve,Vf,Vg,Vh,Vi,Vj,Vk,Vl,Vm,Vn,Vo,Vp,Vq,Vr,Vs,Vt,Vu,Vv,Vw,Vx,Vy,Vz,V0,V1,V2,V3,V4,V5,V6,V7,V8,V9,Ua,Ub,Uc,Ud,Ue,Uf,Ug,Uh,Ui,Uj,Uk,Ul,Um,Un,Uo,Up,Uq,Ur,Us,Ut,Uu,Uv,Uw,Ux,Uy,Uz,U0,U1,U2,U5,U6,U7,U8,U9,Ka,Kb,Kc,Kd,Ke,Kf,Kg,Kh,Ki,Kj,Kk,Kl,Km,Kn,Ko,Kq,Kr,Ks,Kt,Ku,Kv,Kw,Kx,Ky,Kz,K0,K1,K2,K3,K4,K5,K6,K7,Gg,Gi,Gj,Gk,Gl,Gm,Gn,Gr,Gs,Hg,Hc,Hb]
       tactic =>
        try simp only [G6] at *
        try simp only [nc2] at *
        try simp (maxSteps := 4000000) only [hlb,Gt,Gv,Gx,Gu,szN,Gw,Hi]
        symm
        unfold same3
        rw [beq_iff_eq]
        refine List.ext_getElem (by simp [hlen]) fun j h1 h2 => ?_
        rw [List.length_map] at h1 h2
        have := hno j (by omega)
        simpa [h1, h2] using this))
theorem eat_le : ∀ (l : List Node) (o : Int), eat l o ≤ l.length
  | [], o => by simp [eat]
  | n :: l, o => by
    simp only [eat]
    split
    · simp
    · have := eat_le l (o - 1 + Py n)
      simp only [List.length_cons]
      omega
def Pb (t : List Node) : Nat → Nat → List Int
  | 0, _ => []
  | m + 1, at_ => if at_ < t.length then (at_ : Int) :: Pb t m (at_ + eat (t.drop at_) 1) else []
def Tv (t : List Node) (i : Int) : List Int := if i < 0 ∨ (t.length : Int) ≤ i then [] else Pb t (Py (t.getD i.toNat ⟨0, [], 0⟩)).toNat (i.toNat + 1)
def Pt : Con := C0 (fun (t : Sl Node) (i : Int) => Tame t.l ∧ inR .i64 i) (fun t i => Sl.mk (Tv t.l i))
noncomputable def Fi : Ctx := ⟨tab, lkC [(13, N1), (32, Nz)], 60, lkB [], [], false⟩
theorem Iu : Fi.τ = tab := rfl
theorem Iw : Fi.Γ = lkC [(13, N1), (32, Nz)] := rfl
theorem Iv : Fi.dp = 60 := rfl
theorem Ix : Fi.Δ = lkB [] := rfl
theorem It : Fi.cuts = [] := rfl
theorem Is : Fi.wr = false := rfl
set_option maxRecDepth 100000 in
theorem good_Kids3 : M7 Try.prog (46, Pt) := by
  refine ⟨He Try.func46 (by kernel_rfl) rfl, ?_⟩
  have K : Nh Try.prog Fi := Hl Ny Ht (by
    intro p hp
    simp only [List.mem_cons, List.not_mem_nil, or_false] at hp
    rcases hp with rfl | rfl
    · exact good_End3
    · exact good_many3) (by simp)
  obtain ⟨c, hc⟩ : ∃ c, Try.f46.body = some c := ⟨_, rfl⟩
  refine Hm K Try.func46 hc [.tmp 4] rfl 43 rfl (fun cvs hpre => ?_)
  change Pt.pre cvs at hpre
  unfold Pt at hpre
  obtain ⟨⟨t⟩, i, rfl, ⟨ht, hm⟩, hi⟩ := Mp hpre
  simp only at ht hm
  rw [Gy] at hi
  simp only [Try.f46, Option.some.injEq] at hc
  subst hc
  refine Mn 2 (of_decide_eq_true (by kernel_rfl)) ?_
  (sym =>
   simp [Gt,Gv,Gx,Gu,szN,Gw,Iu,Iw,Iv,Ix,It,Is,N1.eq_def,Pt.eq_def,Nz.eq_def,Za,Zb,Zc,Zd,Ze,Zf,Zg,Zn,Zo,Zp,Zq,Zr,Zs,Zt,Zv,Zy,Z1,Z3,Z4,Z5,Z8,Z9,Qa,Qb,Qc,Qd,Qe,Qf,Qg,Qk,Ql,Qm,Qn,Qo,Qp,Qr,Q0,Q1,Q4,Q8,Q9,Ja,Jb,Jc,Jd,Je,Jf,Jg,Jh,Ji,Jj,Jk,Jl,Jt,Jx,Jy,Jz,J0,J1,J2,J5,J6,J7,J8,J9,Xa,Xb,Xc,Xd,Xe,Xf,Xg,Xh,Xi,Xj,Xk,Xl,Xm,Xn,Xo,Xp,Xq,Xr,Xs,Xt,Xu,Xv,Xw,Xx,Xy,X1,X2,X3,X4,X5,X6,X7,X8,We,Wf,Wg,Wh,Wi,Wj,Wl,Wm,Wn,Wo,Wp,Ws,Wt,Wu,Wv,Ww,Wx,Wy,Wz,W0,W3,W4,W5,W6,W7,W8,W9,Ya,Yb,Yc,Yd,Ye,Yf,Yg,Yh,Yi,Yj,Yk,Yl,Ym,Yn,Yo,Yr,Ys,Yt,Yu,Yv,Yw,Yx,Yy,Yz,Y1,Y2,Y3,Y4,Y5,Y6,Y7,Y8,Y9,Va,Vb,Vc,Vd,Ve,Vf,Vg,Vh,Vi,Vj,Vk,Vl,Vm,Vn,Vo,Vp,Vq,Vr,Vs,Vt,Vu,Vv,Vw,Vx,Vy,Vz,V0,V1,V2,V3,V4,V5,V6,V7,V8,V9,Ua,Ub,Uc,Ud,Ue,Uf,Ug,Uh,Ui,Uj,Uk,Ul,Um,Un,Uo,Up,Uq,Ur,Us,Ut,Uu,Uv,U1,U2,U3,U4,U5,U6,U7,U8,U9,Ka,Kb,Kc,Kd,Ke,Kf,Kg,Kh,Ki,Kj,Kk,Kl,Km,Kn,Ko,Kq,Kr,Ks,Kt,Ku,Kv,Kw,Kx,Ky,Kz,K0,K1,K2,K3,K4,K5,K6,K7,Gg,Gi,Gj,Gk,Gl,Gm,Gn,Gr,Hg,Hc,Hb,Mt]
   tactic =>
    try simp only [G6] at *
    try simp only [nc2] at *
    try simp (maxSteps := 4000000) only [Gt,Gv,Gx,Gu,szN,Gw,Hi]
    repeat' (first | with_reducible assumption | with_reducible refine And.intro ?_ ?_ | intro _ | omega | (rw [Gy]; omega))
    · unfold Tv
      rw [if_pos (.inr ‹_›)]
      rfl
    · obtain ⟨i, rfl⟩ : ∃ n : Nat, i = n := ⟨i.toNat, by omega⟩
      have hil : i < t.length := by omega
      have hmi := hm (t.getD i ⟨0, [], 0⟩) (by simp [hil])
      obtain ⟨M, hM⟩ : ∃ M : Nat, Py (t.getD i ⟨0, [], 0⟩) = M := ⟨(Py (t.getD i ⟨0, [], 0⟩)).toNat, by omega⟩
      have e0 : Tv t i = Pb t M (i + 1) := by
        unfold Tv
        rw [if_neg (by omega)]
        simp only [Int.toNat_natCast, hM]
      refine Ho [20, 21, 22, 23, 24, 25, 26, 27, 28, 29, 30, 31, 32, 33, 34, 35, 36, 37, 38, 39, 40, 41] (fun p : Nat × Nat × List Int => [(5, .sl 8 (p.2.2.map enc).length), (6, .d (.int .i64 p.2.1)), (7, .d (.int .i64 p.1))]) (fun p : Nat × Nat × List Int => [(8, .row 1 (p.2.2.map enc) 0)]) (fun p : Nat × Nat × List Int => p.1 ≤ M ∧ p.2.1 ≤ t.length ∧ p.2.2.length = p.1 ∧ p.2.2 ++ Pb t (M - p.1) p.2.1 = Pb t M (i + 1)) (fun p : Nat × Nat × List Int => M - p.1) (0, i + 1, []) ?_ ?_ ?_
      · exact ⟨Nat.zero_le _, hil, rfl, rfl⟩
      · ((try simp only [G3, Ha, G5, Hf, upd, Hh, Hn, Na, Nat.reduceDiv, Nat.reduceMod, Nat.reduceMul, Nat.reduceAdd, Nat.reduceEqDiff, List.set_cons_zero, List.set_cons_succ, if_true, if_false, reduceIte]); (first | refine Wk.of_fl ?_ | skip); simp only [Wk, wkK, Nd, wkT, wk1, AV.kept, keptAll, wkO, lk, G4, and_true, true_and, and_self, Nat.reduceEqDiff, Nat.reduceLeDiff, if_true, if_false, reduceIte, reduceCtorEq, Option.isSome, false_implies]; try simp [Wk, wkK, wkT, wk1, AV.kept, keptAll, wkO, lk, G4])
      rintro ⟨k, q, out⟩ ⟨h1, h2, h3, h4⟩
      simp only at h1 h2 h3 h4
      rcases Hq k M with ⟨hk, hkb⟩ | ⟨hk, hkb⟩
      · rcases Hq q t.length with ⟨hq, hqb⟩ | ⟨hq, hqb⟩
        · have e1 : M - k = (M - k - 1) + 1 := by omega
          rw [e1, Pb, if_pos hq] at h4
          have hle := eat_le (t.drop q) 1
          rw [List.length_drop] at hle
          have e2 : end3 t q = ((q + eat (t.drop q) 1 : Nat) : Int) := by
            unfold end3
            rw [if_neg (by omega)]
            simp
          have hT : Tame t := ⟨ht, hm⟩
          have zz6 := H7 (⟨0, [], 0⟩ : Node) hil
          (sym =>
           simp [hkb,hqb,hM,e2,zz6,Gt,Gv,Gx,Gu,szN,Gw,Iu,Iw,Iv,Ix,It,Is,N1.eq_def,Pt.eq_def,Nz.eq_def,Za,Zb,Zc,Zd,Ze,Zf,Zg,Zn,Zo,Zp,Zq,Zr,Zs,Zt,Zv,Zy,Z1,Z3,Z4,Z5,Z8,Z9,Qa,Qb,Qc,Qd,Qe,Qf,Qg,Qk,Ql,Qm,Qn,Qo,Qp,Qr,Q0,Q1,Q4,Q8,Q9,Ja,Jb,Jc,Jd,Je,Jf,Jg,Jh,Ji,Jj,Jk,Jl,Jt,Jx,Jy,Jz,J0,J1,J2,J5,J6,J7,J8,J9,Xa,Xb,Xc,Xd,Xe,Xf,Xg,Xh,Xi,Xj,Xk,Xl,Xm,Xn,Xo,Xp,Xq,Xr,Xs,Xt,Xu,Xv,Xw,Xx,Xy,X1,X2,X3,X4,X5,X6,X7,X8,We,Wf,Wg,Wh,Wi,Wj,Wl,Wm,Wn,Wo,Wp,Ws,Wt,Wu,Wv,Ww,Wx,Wy,Wz,W0,W3,W4,W5,W6,W7,W8,W9,Ya,Yb,Yc,Yd,Ye,Yf,Yg,Yh,Yi,Yj,Yk,Yl,Ym,Yn,Yo,Yr,Ys,Yt,Yu,Yv,Yw,Yx,Yy,Yz,Y1,Y2,Y3,Y4,Y5,Y6,Y7,Y8,Y9,Va,Vb,Vc,Vd,Ve,Vf,Vg,Vh,Vi,Vj,Vk,Vl,Vm,Vn,Vo,Vp,Vq,Vr,Vs,Vt,Vu,Vv,Vw,Vx,Vy,Vz,V0,V1,V2,V3,V4,V5,V6,V7,V8,V9,Ua,Ub,Uc,Ud,Ue,Uf,Ug,Uh,Ui,Uj,Uk,Ul,Um,Un,Uo,Up,Uq,Ur,Us,Ut,Uu,Uv,U1,U2,U3,U4,U5,U6,U7,U8,U9,Ka,Kb,Kc,Kd,Ke,Kf,Kg,Kh,Ki,Kj,Kk,Kl,Km,Kn,Ko,Kq,Kr,Ks,Kt,Ku,Kv,Kw,Kx,Ky,Kz,K0,K1,K2,K3,K4,K5,K6,K7,Gg,Gi,Gj,Gk,Gl,Gm,Gn,Gr,Hg,Hc,Hb,Mt]
           tactic =>
            try simp only [G6] at *
            try simp only [nc2] at *
            try simp (maxSteps := 4000000) only [hkb,hqb,hM,e2,zz6,Gt,Gv,Gx,Gu,szN,Gw,Hi]
            repeat' (first | with_reducible assumption | with_reducible refine And.intro ?_ ?_ | intro _ | omega | (rw [Gy]; omega))
            refine ⟨(k + 1, q + eat (t.drop q) 1, out ++ [(q : Int)]), by ((try simp only [G3, Ha, G5, Hf, upd, Hh, Hn, Na, Nat.reduceDiv, Nat.reduceMod, Nat.reduceMul, Nat.reduceAdd, Nat.reduceEqDiff, List.set_cons_zero, List.set_cons_succ, if_true, if_false, reduceIte]); (first | refine Wk.of_fl ?_ | skip); simp only [Wk, wkK, Nd, wkT, wk1, AV.kept, keptAll, wkO, lk, G4, and_true, true_and, and_self, Nat.reduceEqDiff, Nat.reduceLeDiff, if_true, if_false, reduceIte, reduceCtorEq, Option.isSome, false_implies]; try simp [Wk, wkK, wkT, wk1, AV.kept, keptAll, wkO, lk, G4]), by simp only; omega, by simp only; omega, by simp [h3], ?_, by simp only; omega⟩
            simp only
            rw [← h4, show M - (k + 1) = M - k - 1 by omega]
            simp)
        · have hz : Pb t (M - k) q = [] := by
            cases hc : M - k with
            | zero => rfl
            | succ c => rw [Pb, if_neg (by omega)]
          rw [hz, List.append_nil] at h4
          have zz7 := H7 (⟨0, [], 0⟩ : Node) hil
          (sym =>
           simp [hkb,hqb,hM,zz7,Gt,Gv,Gx,Gu,szN,Gw,Iu,Iw,Iv,Ix,It,Is,N1.eq_def,Pt.eq_def,Nz.eq_def,Za,Zb,Zc,Zd,Ze,Zf,Zg,Zn,Zo,Zp,Zq,Zr,Zs,Zt,Zv,Zy,Z1,Z3,Z4,Z5,Z8,Z9,Qa,Qb,Qc,Qd,Qe,Qf,Qg,Qk,Ql,Qm,Qn,Qo,Qp,Qr,Q0,Q1,Q4,Q8,Q9,Ja,Jb,Jc,Jd,Je,Jf,Jg,Jh,Ji,Jj,Jk,Jl,Jt,Jx,Jy,Jz,J0,J1,J2,J5,J6,J7,J8,J9,Xa,Xb,Xc,Xd,Xe,Xf,Xg,Xh,Xi,Xj,Xk,Xl,Xm,Xn,Xo,Xp,Xq,Xr,Xs,Xt,Xu,Xv,Xw,Xx,Xy,X1,X2,X3,X4,X5,X6,X7,X8,We,Wf,Wg,Wh,Wi,Wj,Wl,Wm,Wn,Wo,Wp,Ws,Wt,Wu,Wv,Ww,Wx,Wy,Wz,W0,W3,W4,W5,W6,W7,W8,W9,Ya,Yb,Yc,Yd,Ye,Yf,Yg,Yh,Yi,Yj,Yk,Yl,Ym,Yn,Yo,Yr,Ys,Yt,Yu,Yv,Yw,Yx,Yy,Yz,Y1,Y2,Y3,Y4,Y5,Y6,Y7,Y8,Y9,Va,Vb,Vc,Vd,Ve,Vf,Vg,Vh,Vi,Vj,Vk,Vl,Vm,Vn,Vo,Vp,Vq,Vr,Vs,Vt,Vu,Vv,Vw,Vx,Vy,Vz,V0,V1,V2,V3,V4,V5,V6,V7,V8,V9,Ua,Ub,Uc,Ud,Ue,Uf,Ug,Uh,Ui,Uj,Uk,Ul,Um,Un,Uo,Up,Uq,Ur,Us,Ut,Uu,Uv,U1,U2,U3,U4,U5,U6,U7,U8,U9,Ka,Kb,Kc,Kd,Ke,Kf,Kg,Kh,Ki,Kj,Kk,Kl,Km,Kn,Ko,Kq,Kr,Ks,Kt,Ku,Kv,Kw,Kx,Ky,Kz,K0,K1,K2,K3,K4,K5,K6,K7,Gg,Gi,Gj,Gk,Gl,Gm,Gn,Gr,Hg,Hc,Hb,Mt]
           tactic =>
            try simp only [G6] at *
            try simp only [nc2] at *
            try simp (maxSteps := 4000000) only [hkb,hqb,hM,zz7,Gt,Gv,Gx,Gu,szN,Gw,Hi]
            repeat' (first | with_reducible assumption | with_reducible refine And.intro ?_ ?_ | intro _ | omega | (rw [Gy]; omega))
            rw [e0, h4])
      · have hz : Pb t (M - k) q = [] := by
          rw [show M - k = 0 by omega]
          rfl
        rw [hz, List.append_nil] at h4
        have zz8 := H7 (⟨0, [], 0⟩ : Node) hil
        (sym =>
         simp [hkb,hM,zz8,Gt,Gv,Gx,Gu,szN,Gw,Iu,Iw,Iv,Ix,It,Is,N1.eq_def,Pt.eq_def,Nz.eq_def,Za,Zb,Zc,Zd,Ze,Zf,Zg,Zn,Zo,Zp,Zq,Zr,Zs,Zt,Zv,Zy,Z1,Z3,Z4,Z5,Z8,Z9,Qa,Qb,Qc,Qd,Qe,Qf,Qg,Qk,Ql,Qm,Qn,Qo,Qp,Qr,Q0,Q1,Q4,Q8,Q9,Ja,Jb,Jc,Jd,Je,Jf,Jg,Jh,Ji,Jj,Jk,Jl,Jt,Jx,Jy,Jz,J0,J1,J2,J5,J6,J7,J8,J9,Xa,Xb,Xc,Xd,Xe,Xf,Xg,Xh,Xi,Xj,Xk,Xl,Xm,Xn,Xo,Xp,Xq,Xr,Xs,Xt,Xu,Xv,Xw,Xx,Xy,X1,X2,X3,X4,X5,X6,X7,X8,We,Wf,Wg,Wh,Wi,Wj,Wl,Wm,Wn,Wo,Wp,Ws,Wt,Wu,Wv,Ww,Wx,Wy,Wz,W0,W3,W4,W5,W6,W7,W8,W9,Ya,Yb,Yc,Yd,Ye,Yf,Yg,Yh,Yi,Yj,Yk,Yl,Ym,Yn,Yo,Yr,Ys,Yt,Yu,Yv,Yw,Yx,Yy,Yz,Y1,Y2,Y3,Y4,Y5,Y6,Y7,Y8,Y9,Va,Vb,Vc,Vd,Ve,Vf,Vg,Vh,Vi,Vj,Vk,Vl,Vm,Vn,Vo,Vp,Vq,Vr,Vs,Vt,Vu,Vv,Vw,Vx,Vy,Vz,V0,V1,V2,V3,V4,V5,V6,V7,V8,V9,Ua,Ub,Uc,Ud,Ue,Uf,Ug,Uh,Ui,Uj,Uk,Ul,Um,Un,Uo,Up,Uq,Ur,Us,Ut,Uu,Uv,U1,U2,U3,U4,U5,U6,U7,U8,U9,Ka,Kb,Kc,Kd,Ke,Kf,Kg,Kh,Ki,Kj,Kk,Kl,Km,Kn,Ko,Kq,Kr,Ks,Kt,Ku,Kv,Kw,Kx,Ky,Kz,K0,K1,K2,K3,K4,K5,K6,K7,Gg,Gi,Gj,Gk,Gl,Gm,Gn,Gr,Hg,Hc,Hb,Mt]
         tactic =>
          try simp only [G6] at *
          try simp only [nc2] at *
          try simp (maxSteps := 4000000) only [hkb,hM,zz8,Gt,Gv,Gx,Gu,szN,Gw,Hi]
          repeat' (first | with_reducible assumption | with_reducible refine And.intro ?_ ?_ | intro _ | omega | (rw [Gy]; omega))
          rw [e0, h4])
    · unfold Tv
      rw [if_pos (.inl ‹_›)]
      rfl)
end Go.Am.Ty
set_option linter.unusedSimpArgs false
set_option linter.unusedVariables false
set_option maxHeartbeats 1000000
namespace Go.Am.Ty
open Go.Proofs
open Enc (enc dec)
def popA : Int → List Int → List Int
  | x, [] => if x = 0 then [] else [x]
  | x, y :: r => if x = 0 then popA (y - 1) r else x :: y :: r
def popL : List Int → List Int
  | [] => []
  | x :: r => popA x r
def shal : List Node → List Int → Bool
  | [], _ => true
  | n :: l, rs => if 100 ≤ rs.length then false else shal l (popA (Py n) rs)
def Ab (t : List Node) : Bool := shal t []
def OpenOk (rs : List Int) : Prop := (∀ x ∈ rs, 0 ≤ x ∧ x ≤ 50) ∧ ∀ x ∈ rs.tail, 1 ≤ x
theorem rev_last {x : Int} {r : List Int} : el ((x :: r).reverse.map enc) r.length = .int .i64 x := by
  simp [el]
theorem rev_take {x : Int} {r : List Int} : ((x :: r).reverse.map (enc : Int → D)).take r.length = r.reverse.map enc := by
  rw [List.reverse_cons, List.map_append, List.take_left' (by simp)]
theorem rev_set {x y : Int} {r : List Int} : ((x :: r).reverse.map (enc : Int → D)).set r.length (.int .i64 y) = (y :: r).reverse.map enc := by
  rw [List.reverse_cons, List.map_append, List.set_append]
  simp
theorem popA_stop {x : Int} {r : List Int} (h : x ≠ 0) : popA x r = x :: r := by
  cases r <;> simp [popA, h]
def Mr : Con := Sn (fun (t : Sl Node) => Tame t.l) (fun t => Ab t.l)
noncomputable def Sw : Ctx := ⟨tab, lkC [(32, Nz)], 60, lkB [], [39], false⟩
theorem Lf : Sw.τ = tab := rfl
theorem Lh : Sw.Γ = lkC [(32, Nz)] := rfl
theorem Lg : Sw.dp = 60 := rfl
theorem Li : Sw.Δ = lkB [] := rfl
theorem Le : Sw.cuts = [39] := rfl
theorem Ld : Sw.wr = false := rfl
set_option maxRecDepth 100000 in
theorem good_shallow3 : M7 Try.prog (29, Mr) := by
  refine ⟨He Try.func29 (by kernel_rfl) rfl, ?_⟩
  have K : Nh Try.prog Sw := Hl Ny Ht (by
    intro p hp
    simp only [List.mem_cons, List.not_mem_nil, or_false] at hp
    rcases hp with rfl
    · exact good_many3) (by simp)
  obtain ⟨c, hc⟩ : ∃ c, Try.f29.body = some c := ⟨_, rfl⟩
  refine Hm K Try.func29 hc [.tmp 2] rfl 51 rfl (fun cvs hpre => ?_)
  change Mr.pre cvs at hpre
  unfold Mr at hpre
  obtain ⟨⟨t⟩, rfl, ⟨ht, hm⟩⟩ := Nw hpre
  simp only at ht hm
  simp only [Try.f29, Option.some.injEq] at hc
  subst hc
  refine Mn 3 (of_decide_eq_true (by kernel_rfl)) ?_
  (sym =>
   simp [Gt,Gv,Gx,Gu,szN,Gw,Lf,Lh,Lg,Li,Le,Ld,Nz.eq_def,Mr.eq_def,Za,Zb,Zc,Zd,Ze,Zf,Zg,Zn,Zo,Zp,Zq,Zr,Zs,Zt,Zv,Zw,Zy,Z0,Z1,Z3,Z4,Z5,Z8,Z9,Qa,Qb,Qc,Qd,Qe,Qf,Qg,Qi,Qj,Qk,Ql,Qm,Qn,Qo,Qp,Qr,Q0,Q1,Q4,Q8,Q9,Ja,Jb,Jc,Jd,Je,Jf,Jg,Jh,Ji,Jj,Jk,Jl,Jt,Ju,Jv,Jw,Jx,Jy,Jz,J0,J1,J2,J3,J4,J5,J6,J7,J8,J9,Xa,Xb,Xc,Xd,Xe,Xf,Xg,Xh,Xi,Xj,Xk,Xl,Xm,Xn,Xo,Xp,Xq,Xr,Xs,Xt,Xu,Xv,Xw,Xx,Xy,Xz,X1,X2,X3,X4,X5,X6,X7,X8,We,Wf,Wg,Wh,Wi,Wj,Wl,Wm,Wn,Wo,Wp,Ws,Wt,Wu,Wv,Ww,Wx,Wy,Wz,W0,W3,W4,W5,W6,W7,W8,W9,Ya,Yb,Yc,Yd,Ye,Yf,Yg,Yh,Yi,Yj,Yk,Yl,Ym,Yn,Yo,Yp,Yq,Yr,Ys,Yt,Yu,Yv,Yw,Yx,Yy,Yz,Y1,Y2,Y3,Y4,Y5,Y6,Y7,Y8,Y9,Va,Vb,Vc,Vd,Ve,Vf,Vg,Vh,Vi,Vj,Vk,Vl,Vm,Vn,Vo,Vp,Vq,Vr,Vs,Vt,Vu,Vv,Vw,Vx,Vy,Vz,V0,V1,V2,V3,V4,V5,V6,V7,V8,V9,Ua,Ub,Uc,Ud,Ue,Uf,Ug,Uh,Ui,Uj,Uk,Ul,Um,Un,Uo,Up,Uq,Ur,Us,Ut,Uu,Uv,Uw,Ux,Uy,Uz,U0,U1,U2,U3,U4,U5,U6,U7,U8,U9,Ka,Kb,Kc,Kd,Ke,Kf,Kg,Kh,Ki,Kj,Kk,Kl,Km,Kn,Ko,Kq,Kr,Ks,Kt,Ku,Kv,Kw,Kx,Ky,Kz,K0,K1,K2,K3,K4,K5,K6,K7,Gg,Gi,Gj,Gk,Gl,Gm,Gn,Gr,Hg,Hc,Hb,Mt]
   tactic =>
    try simp only [G6] at *
    try simp only [nc2] at *
    try simp (maxSteps := 4000000) only [Gt,Gv,Gx,Gu,szN,Gw,Hi]
    refine Ho [2, 6, 7, 8, 9, 10, 11, 12, 13, 14, 15, 16, 17, 18, 19, 20, 21, 22, 23, 24, 25, 26, 27, 28, 29, 30, 31, 32, 33, 34, 35, 36, 37, 38, 39, 40, 41, 42, 43, 44, 45, 46, 47, 48, 49, 50] (fun p : Nat × List Int => [(3, .sl 5 (p.2.reverse.map enc).length), (4, .d (.int .i64 p.1)), (5, .dead)]) (fun p : Nat × List Int => [(5, .row 1 (p.2.reverse.map enc) 0)]) (fun p : Nat × List Int => p.1 ≤ t.length ∧ p.2.length ≤ 101 ∧ (∀ x ∈ p.2, 1 ≤ x ∧ x ≤ 50) ∧ shal (t.drop p.1) p.2 = Ab t) (fun p : Nat × List Int => t.length - p.1) (0, []) ?_ ?_ ?_
    · exact ⟨Nat.zero_le _, by simp, by simp, rfl⟩
    · ((try simp only [G3, Ha, G5, Hf, upd, Hh, Hn, Na, Nat.reduceDiv, Nat.reduceMod, Nat.reduceMul, Nat.reduceAdd, Nat.reduceEqDiff, List.set_cons_zero, List.set_cons_succ, if_true, if_false, reduceIte]); (first | refine Wk.of_fl ?_ | skip); simp only [Wk, wkK, Nd, wkT, wk1, AV.kept, keptAll, wkO, lk, G4, and_true, true_and, and_self, Nat.reduceEqDiff, Nat.reduceLeDiff, if_true, if_false, reduceIte, reduceCtorEq, Option.isSome, false_implies]; try simp [Wk, wkK, wkT, wk1, AV.kept, keptAll, wkO, lk, G4])
    rintro ⟨k, rs⟩ ⟨h1, h2, h3, h4⟩
    simp only at h1 h2 h3 h4
    rcases Hq k t.length with ⟨hlt, hlb⟩ | ⟨hlt, hlb⟩
    · have hmk := hm (t.getD k ⟨0, [], 0⟩) (by simp [hlt])
      have e1 : shal (t.drop k) rs = if 100 ≤ rs.length then false else shal (t.drop (k + 1)) (popA (Py (t.getD k ⟨0, [], 0⟩)) rs) := by
        rw [List.drop_eq_getElem_cons hlt, shal]
        simp [hlt]
      have zz1 := H7 (⟨0, [], 0⟩ : Node) hlt
      (sym =>
       simp [hlb,zz1,List.length_reverse,Gt,Gv,Gx,Gu,szN,Gw,Lf,Lh,Lg,Li,Le,Ld,Nz.eq_def,Mr.eq_def,Za,Zb,Zc,Zd,Ze,Zf,Zg,Zn,Zo,Zp,Zq,Zr,Zs,Zt,Zv,Zw,Zy,Z0,Z1,Z3,Z4,Z5,Z8,Z9,Qa,Qb,Qc,Qd,Qe,Qf,Qg,Qi,Qj,Qk,Ql,Qm,Qn,Qo,Qp,Qr,Q0,Q1,Q4,Q8,Q9,Ja,Jb,Jc,Jd,Je,Jf,Jg,Jh,Ji,Jj,Jk,Jl,Jt,Ju,Jv,Jw,Jx,Jy,Jz,J0,J1,J2,J3,J4,J5,J6,J7,J8,J9,Xa,Xb,Xc,Xd,Xe,Xf,Xg,Xh,Xi,Xj,Xk,Xl,Xm,Xn,Xo,Xp,Xq,Xr,Xs,Xt,Xu,Xv,Xw,Xx,Xy,Xz,X1,X2,X3,X4,X5,X6,X7,X8,We,Wf,Wg,Wh,Wi,Wj,Wl,Wm,Wn,Wo,Wp,Ws,Wt,Wu,Wv,Ww,Wx,Wy,Wz,W0,W3,W4,W5,W6,W7,W8,W9,Ya,Yb,Yc,Yd,Ye,Yf,Yg,Yh,Yi,Yj,Yk,Yl,Ym,Yn,Yo,Yp,Yq,Yr,Ys,Yt,Yu,Yv,Yw,Yx,Yy,Yz,Y1,Y2,Y3,Y4,Y5,Y6,Y7,Y8,Y9,Va,Vb,Vc,Vd,Ve,Vf,Vg,Vh,Vi,Vj,Vk,Vl,Vm,Vn,Vo,Vp,Vq,Vr,Vs,Vt,Vu,Vv,Vw,Vx,Vy,Vz,V0,V1,V2,V3,V4,V5,V6,V7,V8,V9,Ua,Ub,Uc,Ud,Ue,Uf,Ug,Uh,Ui,Uj,Uk,Ul,Um,Un,Uo,Up,Uq,Ur,Us,Ut,Uu,Uv,Uw,Ux,Uy,Uz,U0,U1,U2,U3,U4,U5,U6,U7,U8,U9,Ka,Kb,Kc,Kd,Ke,Kf,Kg,Kh,Ki,Kj,Kk,Kl,Km,Kn,Ko,Kq,Kr,Ks,Kt,Ku,Kv,Kw,Kx,Ky,Kz,K0,K1,K2,K3,K4,K5,K6,K7,Gg,Gi,Gj,Gk,Gl,Gm,Gn,Gr,Hg,Hc,Hb,Mt]
       tactic =>
        try simp only [G6] at *
        try simp only [nc2] at *
        try simp (maxSteps := 4000000) only [hlb,zz1,List.length_reverse,Gt,Gv,Gx,Gu,szN,Gw,Hi]
        revert e1 hmk
        generalize Py (t.getD k ⟨0, [], 0⟩) = M
        intro hmk e1
        repeat' (first | with_reducible assumption | with_reducible refine And.intro ?_ ?_ | intro _ | omega | (rw [Gy]; omega))
        · rw [if_pos (by omega)] at e1
          rw [← h4, e1]
        · rw [if_neg (by omega)] at e1
          have e2 : rs.reverse ++ [M] = (M :: rs).reverse := by simp
          have hS : ∀ (q : List Int), q ≠ [] → ((q.length : Nat) : Int) - 1 = ((q.length - 1 : Nat) : Int) := by
            intro q hq
            have := List.length_pos_iff.2 hq
            omega
          refine Ho [23, 24, 25, 26, 27, 28, 29, 30, 31, 32, 33, 34, 35, 36, 37, 38, 39, 40, 41, 42, 43, 44, 45, 46, 47, 48, 49, 50] (fun q : List Int => [(3, .sl 5 (q.reverse.map enc).length), (5, .dead), (12, .dead), (15, .dead), (22, .dead)]) (fun q : List Int => [(5, .row 1 (q.reverse.map enc) 0)]) (fun q : List Int => OpenOk q ∧ q.length ≤ 101 ∧ popL q = popA M rs) (fun q : List Int => q.length) (M :: rs) ?_ ?_ ?_
          · refine ⟨⟨fun x hx => ?_, fun x hx => (h3 x hx).1⟩, by simp only [List.length_cons]; omega, rfl⟩
            rcases List.mem_cons.1 hx with rfl | hx
            · exact hmk
            · have := h3 x hx; omega
          · ((try simp only [G3, Ha, G5, Hf, upd, Hh, Hn, Na, Nat.reduceDiv, Nat.reduceMod, Nat.reduceMul, Nat.reduceAdd, Nat.reduceEqDiff, List.set_cons_zero, List.set_cons_succ, if_true, if_false, reduceIte]); (first | refine Wk.of_fl ?_ | skip); simp only [Wk, wkK, Nd, wkT, wk1, AV.kept, keptAll, wkO, lk, G4, and_true, true_and, and_self, Nat.reduceEqDiff, Nat.reduceLeDiff, if_true, if_false, reduceIte, reduceCtorEq, Option.isSome, false_implies]; try simp [Wk, wkK, wkT, wk1, AV.kept, keptAll, wkO, lk, G4])
          rintro q ⟨⟨g1, g2⟩, g3, g4⟩
          cases q with
          | nil =>
            have hz : ltB 0 ((0 : Nat) : Int) = false := rfl
            (sym =>
             simp [List.length_reverse,List.reverse_nil,hz,Gt,Gv,Gx,Gu,szN,Gw,Lf,Lh,Lg,Li,Le,Ld,Nz.eq_def,Mr.eq_def,Za,Zb,Zc,Zd,Ze,Zf,Zg,Zn,Zo,Zp,Zq,Zr,Zs,Zt,Zv,Zw,Zy,Z0,Z1,Z3,Z4,Z5,Z8,Z9,Qa,Qb,Qc,Qd,Qe,Qf,Qg,Qi,Qj,Qk,Ql,Qm,Qn,Qo,Qp,Qr,Q0,Q1,Q4,Q8,Q9,Ja,Jb,Jc,Jd,Je,Jf,Jg,Jh,Ji,Jj,Jk,Jl,Jt,Ju,Jv,Jw,Jx,Jy,Jz,J0,J1,J2,J3,J4,J5,J6,J7,J8,J9,Xa,Xb,Xc,Xd,Xe,Xf,Xg,Xh,Xi,Xj,Xk,Xl,Xm,Xn,Xo,Xp,Xq,Xr,Xs,Xt,Xu,Xv,Xw,Xx,Xy,Xz,X1,X2,X3,X4,X5,X6,X7,X8,We,Wf,Wg,Wh,Wi,Wj,Wl,Wm,Wn,Wo,Wp,Ws,Wt,Wu,Wv,Ww,Wx,Wy,Wz,W0,W3,W4,W5,W6,W7,W8,W9,Ya,Yb,Yc,Yd,Ye,Yf,Yg,Yh,Yi,Yj,Yk,Yl,Ym,Yn,Yo,Yp,Yq,Yr,Ys,Yt,Yu,Yv,Yw,Yx,Yy,Yz,Y1,Y2,Y3,Y4,Y5,Y6,Y7,Y8,Y9,Va,Vb,Vc,Vd,Ve,Vf,Vg,Vh,Vi,Vj,Vk,Vl,Vm,Vn,Vo,Vp,Vq,Vr,Vs,Vt,Vu,Vv,Vw,Vx,Vy,Vz,V0,V1,V2,V3,V4,V5,V6,V7,V8,V9,Ua,Ub,Uc,Ud,Ue,Uf,Ug,Uh,Ui,Uj,Uk,Ul,Um,Un,Uo,Up,Uq,Ur,Us,Ut,Uu,Uv,Uw,Ux,Uy,Uz,U0,U1,U2,U3,U4,U5,U6,U7,U8,U9,Ka,Kb,Kc,Kd,Ke,Kf,Kg,Kh,Ki,Kj,Kk,Kl,Km,Kn,Ko,Kq,Kr,Ks,Kt,Ku,Kv,Kw,Kx,Ky,Kz,K0,K1,K2,K3,K4,K5,K6,K7,Gg,Gi,Gj,Gk,Gl,Gm,Gn,Gr,Hg,Hc,Hb,Mt]
             tactic =>
              try simp only [G6] at *
              try simp only [nc2] at *
              try simp (maxSteps := 4000000) only [List.length_reverse,List.reverse_nil,hz,Gt,Gv,Gx,Gu,szN,Gw,Hi]
              repeat' (first | with_reducible assumption | with_reducible refine And.intro ?_ ?_ | intro _ | omega | (rw [Gy]; omega))
              simp only [popL] at g4
              exact ⟨(k + 1, []), by ((try simp only [G3, Ha, G5, Hf, upd, Hh, Hn, Na, Nat.reduceDiv, Nat.reduceMod, Nat.reduceMul, Nat.reduceAdd, Nat.reduceEqDiff, List.set_cons_zero, List.set_cons_succ, if_true, if_false, reduceIte]); (first | refine Wk.of_fl ?_ | skip); simp only [Wk, wkK, Nd, wkT, wk1, AV.kept, keptAll, wkO, lk, G4, and_true, true_and, and_self, Nat.reduceEqDiff, Nat.reduceLeDiff, if_true, if_false, reduceIte, reduceCtorEq, Option.isSome, false_implies]; try simp [Wk, wkK, wkT, wk1, AV.kept, keptAll, wkO, lk, G4]), by simp only; omega, by simp, by simp, by simp only; rw [← h4, e1, g4], by simp only; omega⟩)
          | cons x r =>
            have hz : ltB 0 ((r.length + 1 : Nat) : Int) = true := by rw [Ba]; omega
            have hy : ((r.length + 1 : Nat) : Int) - 1 = (r.length : Int) := by omega
            have hx1 := g1 x (by simp)
            have hlt' : el (List.map enc (x :: r).reverse) r.length = .int .i64 x := rev_last
            have htk : List.take r.length (List.map (enc : Int → D) (x :: r).reverse) = List.map enc r.reverse := rev_take
            simp only [List.length_cons] at g3
            by_cases hx0 : x = 0
            · subst hx0
              cases r with
              | nil =>
                have hz1 : ltB 0 ((0 : Nat) : Int) = false := rfl
                simp only [List.length_nil] at hz hy hlt' htk
                (sym =>
                 simp [List.length_reverse,hz,hy,hlt',htk,hz1,List.reverse_nil,Gt,Gv,Gx,Gu,szN,Gw,Lf,Lh,Lg,Li,Le,Ld,Nz.eq_def,Mr.eq_def,Za,Zb,Zc,Zd,Ze,Zf,Zg,Zn,Zo,Zp,Zq,Zr,Zs,Zt,Zv,Zw,Zy,Z0,Z1,Z3,Z4,Z5,Z8,Z9,Qa,Qb,Qc,Qd,Qe,Qf,Qg,Qi,Qj,Qk,Ql,Qm,Qn,Qo,Qp,Qr,Q0,Q1,Q4,Q8,Q9,Ja,Jb,Jc,Jd,Je,Jf,Jg,Jh,Ji,Jj,Jk,Jl,Jt,Ju,Jv,Jw,Jx,Jy,Jz,J0,J1,J2,J3,J4,J5,J6,J7,J8,J9,Xa,Xb,Xc,Xd,Xe,Xf,Xg,Xh,Xi,Xj,Xk,Xl,Xm,Xn,Xo,Xp,Xq,Xr,Xs,Xt,Xu,Xv,Xw,Xx,Xy,Xz,X1,X2,X3,X4,X5,X6,X7,X8,We,Wf,Wg,Wh,Wi,Wj,Wl,Wm,Wn,Wo,Wp,Ws,Wt,Wu,Wv,Ww,Wx,Wy,Wz,W0,W3,W4,W5,W6,W7,W8,W9,Ya,Yb,Yc,Yd,Ye,Yf,Yg,Yh,Yi,Yj,Yk,Yl,Ym,Yn,Yo,Yp,Yq,Yr,Ys,Yt,Yu,Yv,Yw,Yx,Yy,Yz,Y1,Y2,Y3,Y4,Y5,Y6,Y7,Y8,Y9,Va,Vb,Vc,Vd,Ve,Vf,Vg,Vh,Vi,Vj,Vk,Vl,Vm,Vn,Vo,Vp,Vq,Vr,Vs,Vt,Vu,Vv,Vw,Vx,Vy,Vz,V0,V1,V2,V3,V4,V5,V6,V7,V8,V9,Ua,Ub,Uc,Ud,Ue,Uf,Ug,Uh,Ui,Uj,Uk,Ul,Um,Un,Uo,Up,Uq,Ur,Us,Ut,Uu,Uv,Uw,Ux,Uy,Uz,U0,U1,U2,U3,U4,U5,U6,U7,U8,U9,Ka,Kb,Kc,Kd,Ke,Kf,Kg,Kh,Ki,Kj,Kk,Kl,Km,Kn,Ko,Kq,Kr,Ks,Kt,Ku,Kv,Kw,Kx,Ky,Kz,K0,K1,K2,K3,K4,K5,K6,K7,Gg,Gi,Gj,Gk,Gl,Gm,Gn,Gr,Hg,Hc,Hb,Mt]
                 tactic =>
                  try simp only [G6] at *
                  try simp only [nc2] at *
                  try simp (maxSteps := 4000000) only [List.length_reverse,hz,hy,hlt',htk,hz1,List.reverse_nil,Gt,Gv,Gx,Gu,szN,Gw,Hi]
                  repeat' (first | with_reducible assumption | with_reducible refine And.intro ?_ ?_ | intro _ | omega | (rw [Gy]; omega))
                  exact ⟨[], by ((try simp only [G3, Ha, G5, Hf, upd, Hh, Hn, Na, Nat.reduceDiv, Nat.reduceMod, Nat.reduceMul, Nat.reduceAdd, Nat.reduceEqDiff, List.set_cons_zero, List.set_cons_succ, if_true, if_false, reduceIte]); (first | refine Wk.of_fl ?_ | skip); simp only [Wk, wkK, Nd, wkT, wk1, AV.kept, keptAll, wkO, lk, G4, and_true, true_and, and_self, Nat.reduceEqDiff, Nat.reduceLeDiff, if_true, if_false, reduceIte, reduceCtorEq, Option.isSome, false_implies]; try simp [Wk, wkK, wkT, wk1, AV.kept, keptAll, wkO, lk, G4]), ⟨by simp, by simp⟩, by simp, by rw [← g4]; rfl, by simp⟩)
              | cons y r =>
                have hy1 := g2 y (by simp)
                have hy2 := g1 y (by simp)
                have hz2 : ltB 0 ((r.length + 1 : Nat) : Int) = true := by rw [Ba]; omega
                have hy3 : ((r.length + 1 : Nat) : Int) - 1 = (r.length : Int) := by omega
                have hl2 : el (List.map enc (y :: r).reverse) r.length = .int .i64 y := rev_last
                simp only [List.length_cons] at hz hy hlt' htk g3
                (sym =>
                 simp [List.length_reverse,hz,hy,hlt',htk,hz2,hy3,hl2,rev_set,Gt,Gv,Gx,Gu,szN,Gw,Lf,Lh,Lg,Li,Le,Ld,Nz.eq_def,Mr.eq_def,Za,Zb,Zc,Zd,Ze,Zf,Zg,Zn,Zo,Zp,Zq,Zr,Zs,Zt,Zv,Zw,Zy,Z0,Z1,Z3,Z4,Z5,Z8,Z9,Qa,Qb,Qc,Qd,Qe,Qf,Qg,Qi,Qj,Qk,Ql,Qm,Qn,Qo,Qp,Qr,Q0,Q1,Q4,Q8,Q9,Ja,Jb,Jc,Jd,Je,Jf,Jg,Jh,Ji,Jj,Jk,Jl,Jt,Ju,Jv,Jw,Jx,Jy,Jz,J0,J1,J2,J3,J4,J5,J6,J7,J8,J9,Xa,Xb,Xc,Xd,Xe,Xf,Xg,Xh,Xi,Xj,Xk,Xl,Xm,Xn,Xo,Xp,Xq,Xr,Xs,Xt,Xu,Xv,Xw,Xx,Xy,Xz,X1,X2,X3,X4,X5,X6,X7,X8,We,Wf,Wg,Wh,Wi,Wj,Wl,Wm,Wn,Wo,Wp,Ws,Wt,Wu,Wv,Ww,Wx,Wy,Wz,W0,W3,W4,W5,W6,W7,W8,W9,Ya,Yb,Yc,Yd,Ye,Yf,Yg,Yh,Yi,Yj,Yk,Yl,Ym,Yn,Yo,Yp,Yq,Yr,Ys,Yt,Yu,Yv,Yw,Yx,Yy,Yz,Y1,Y2,Y3,Y4,Y5,Y6,Y7,Y8,Y9,Va,Vb,Vc,Vd,Ve,Vf,Vg,Vh,Vi,Vj,Vk,Vl,Vm,Vn,Vo,Vp,Vq,Vr,Vs,Vt,Vu,Vv,Vw,Vx,Vy,Vz,V0,V1,V2,V3,V4,V5,V6,V7,V8,V9,Ua,Ub,Uc,Ud,Ue,Uf,Ug,Uh,Ui,Uj,Uk,Ul,Um,Un,Uo,Up,Uq,Ur,Us,Ut,Uu,Uv,Uw,Ux,Uy,Uz,U0,U1,U2,U3,U4,U5,U6,U7,U8,U9,Ka,Kb,Kc,Kd,Ke,Kf,Kg,Kh,Ki,Kj,Kk,Kl,Km,Kn,Ko,Kq,Kr,Ks,Kt,Ku,Kv,Kw,Kx,Ky,Kz,K0,K1,K2,K3,K4,K5,K6,K7,Gg,Gi,Gj,Gk,Gl,Gm,Gn,Gr,Hg,Hc,Hb,Mt]
                 tactic =>
                  try simp only [G6] at *
                  try simp only [nc2] at *
                  try simp (maxSteps := 4000000) only [List.length_reverse,hz,hy,hlt',htk,hz2,hy3,hl2,rev_set,Gt,Gv,Gx,Gu,szN,Gw,Hi]
                  repeat' (first | with_reducible assumption | with_reducible refine And.intro ?_ ?_ | intro _ | omega | (rw [Gy]; omega))
                  refine ⟨(y - 1) :: r, by ((try simp only [G3, Ha, G5, Hf, upd, Hh, Hn, Na, Nat.reduceDiv, Nat.reduceMod, Nat.reduceMul, Nat.reduceAdd, Nat.reduceEqDiff, List.set_cons_zero, List.set_cons_succ, if_true, if_false, reduceIte]); (first | refine Wk.of_fl ?_ | skip); simp only [Wk, wkK, Nd, wkT, wk1, AV.kept, keptAll, wkO, lk, G4, and_true, true_and, and_self, Nat.reduceEqDiff, Nat.reduceLeDiff, if_true, if_false, reduceIte, reduceCtorEq, Option.isSome, false_implies]; try simp [Wk, wkK, wkT, wk1, AV.kept, keptAll, wkO, lk, G4]), ⟨fun z hz => ?_, fun z hz => g2 z (List.mem_cons_of_mem _ hz)⟩, by simp only [List.length_cons]; omega, by rw [← g4]; simp only [popL, popA, if_true], by simp only [List.length_cons]; omega⟩
                  rcases List.mem_cons.1 hz with rfl | hz
                  · omega
                  · exact g1 z (List.mem_cons_of_mem _ (List.mem_cons_of_mem _ hz)))
            · have hxb : (x == (0 : Int)) = false := by simpa using hx0
              (sym =>
               simp [List.length_reverse,hz,hy,hlt',hxb,Gt,Gv,Gx,Gu,szN,Gw,Lf,Lh,Lg,Li,Le,Ld,Nz.eq_def,Mr.eq_def,Za,Zb,Zc,Zd,Ze,Zf,Zg,Zn,Zo,Zp,Zq,Zr,Zs,Zt,Zv,Zw,Zy,Z0,Z1,Z3,Z4,Z5,Z8,Z9,Qa,Qb,Qc,Qd,Qe,Qf,Qg,Qi,Qj,Qk,Ql,Qm,Qn,Qo,Qp,Qr,Q0,Q1,Q4,Q8,Q9,Ja,Jb,Jc,Jd,Je,Jf,Jg,Jh,Ji,Jj,Jk,Jl,Jt,Ju,Jv,Jw,Jx,Jy,Jz,J0,J1,J2,J3,J4,J5,J6,J7,J8,J9,Xa,Xb,Xc,Xd,Xe,Xf,Xg,Xh,Xi,Xj,Xk,Xl,Xm,Xn,Xo,Xp,Xq,Xr,Xs,Xt,Xu,Xv,Xw,Xx,Xy,Xz,X1,X2,X3,X4,X5,X6,X7,X8,We,Wf,Wg,Wh,Wi,Wj,Wl,Wm,Wn,Wo,Wp,Ws,Wt,Wu,Wv,Ww,Wx,Wy,Wz,W0,W3,W4,W5,W6,W7,W8,W9,Ya,Yb,Yc,Yd,Ye,Yf,Yg,Yh,Yi,Yj,Yk,Yl,Ym,Yn,Yo,Yp,Yq,Yr,Ys,Yt,Yu,Yv,Yw,Yx,Yy,Yz,Y1,Y2,Y3,Y4,Y5,Y6,Y7,Y8,Y9,Va,Vb,Vc,Vd,Ve,Vf,Vg,Vh,Vi,Vj,Vk,Vl,Vm,Vn,Vo,Vp,Vq,Vr,Vs,Vt,Vu,Vv,Vw,Vx,Vy,Vz,V0,V1,V2,V3,V4,V5,V6,V7,V8,V9,Ua,Ub,Uc,Ud,Ue,Uf,Ug,Uh,Ui,Uj,Uk,Ul,Um,Un,Uo,Up,Uq,Ur,Us,Ut,Uu,Uv,Uw,Ux,Uy,Uz,U0,U1,U2,U3,U4,U5,U6,U7,U8,U9,Ka,Kb,Kc,Kd,Ke,Kf,Kg,Kh,Ki,Kj,Kk,Kl,Km,Kn,Ko,Kq,Kr,Ks,Kt,Ku,Kv,Kw,Kx,Ky,Kz,K0,K1,K2,K3,K4,K5,K6,K7,Gg,Gi,Gj,Gk,Gl,Gm,Gn,Gr,Hg,Hc,Hb,Mt]
               tactic =>
                try simp only [G6] at *
                try simp only [nc2] at *
                try simp (maxSteps := 4000000) only [List.length_reverse,hz,hy,hlt',hxb,Gt,Gv,Gx,Gu,szN,Gw,Hi]
                repeat' (first | with_reducible assumption | with_reducible refine And.intro ?_ ?_ | intro _ | omega | (rw [Gy]; omega))
                have e3 : popA M rs = x :: r := by rw [← g4]; exact popA_stop hx0
                refine ⟨(k + 1, x :: r), by ((try simp only [G3, Ha, G5, Hf, upd, Hh, Hn, Na, Nat.reduceDiv, Nat.reduceMod, Nat.reduceMul, Nat.reduceAdd, Nat.reduceEqDiff, List.set_cons_zero, List.set_cons_succ, if_true, if_false, reduceIte]); (first | refine Wk.of_fl ?_ | skip); simp only [Wk, wkK, Nd, wkT, wk1, AV.kept, keptAll, wkO, lk, G4, and_true, true_and, and_self, Nat.reduceEqDiff, Nat.reduceLeDiff, if_true, if_false, reduceIte, reduceCtorEq, Option.isSome, false_implies]; try simp [Wk, wkK, wkT, wk1, AV.kept, keptAll, wkO, lk, G4]), by simp only; omega, by simp only [List.length_cons]; omega, fun z hz => ?_, by simp only; rw [← h4, e1, e3], by simp only; omega⟩
                rcases List.mem_cons.1 hz with rfl | hz
                · omega
                · exact ⟨g2 z hz, (g1 z (List.mem_cons_of_mem _ hz)).2⟩))
    · (sym =>
       simp [hlb,Gt,Gv,Gx,Gu,szN,Gw,Lf,Lh,Lg,Li,Le,Ld,Nz.eq_def,Mr.eq_def,Za,Zb,Zc,Zd,Ze,Zf,Zg,Zn,Zo,Zp,Zq,Zr,Zs,Zt,Zv,Zw,Zy,Z0,Z1,Z3,Z4,Z5,Z8,Z9,Qa,Qb,Qc,Qd,Qe,Qf,Qg,Qi,Qj,Qk,Ql,Qm,Qn,Qo,Qp,Qr,Q0,Q1,Q4,Q8,Q9,Ja,Jb,Jc,Jd,Je,Jf,Jg,Jh,Ji,Jj,Jk,Jl,Jt,Ju,Jv,Jw,Jx,Jy,Jz,J0,J1,J2,J3,J4,J5,J6,J7,J8,J9,Xa,Xb,Xc,Xd,Xe,Xf,Xg,Xh,Xi,Xj,Xk,Xl,Xm,Xn,Xo,Xp,Xq,Xr,Xs,Xt,Xu,Xv,Xw,Xx,Xy,Xz,X1,X2,X3,X4,X5,X6,X7,X8,We,Wf,Wg,Wh,Wi,Wj,Wl,Wm,Wn,Wo,Wp,Ws,Wt,Wu,Wv,Ww,Wx,Wy,Wz,W0,W3,W4,W5,W6,W7,W8,W9,Ya,Yb,Yc,Yd,Ye,Yf,Yg,Yh,Yi,Yj,Yk,Yl,Ym,Yn,Yo,Yp,Yq,Yr,Ys,Yt,Yu,Yv,Yw,Yx,Yy,Yz,Y1,Y2,Y3,Y4,Y5,Y6,Y7,Y8,Y9,Va,Vb,Vc,Vd,Ve,Vf,Vg,Vh,Vi,Vj,Vk,Vl,Vm,Vn,Vo,Vp,Vq,Vr,Vs,Vt,Vu,Vv,Vw,Vx,Vy,Vz,V0,V1,V2,V3,V4,V5,V6,V7,V8,V9,Ua,Ub,Uc,Ud,Ue,Uf,Ug,Uh,Ui,Uj,Uk,Ul,Um,Un,Uo,Up,Uq,Ur,Us,Ut,Uu,Uv,Uw,Ux,Uy,Uz,U0,U1,U2,U3,U4,U5,U6,U7,U8,U9,Ka,Kb,Kc,Kd,Ke,Kf,Kg,Kh,Ki,Kj,Kk,Kl,Km,Kn,Ko,Kq,Kr,Ks,Kt,Ku,Kv,Kw,Kx,Ky,Kz,K0,K1,K2,K3,K4,K5,K6,K7,Gg,Gi,Gj,Gk,Gl,Gm,Gn,Gr,Hg,Hc,Hb,Mt]
       tactic =>
        try simp only [G6] at *
        try simp only [nc2] at *
        try simp (maxSteps := 4000000) only [hlb,Gt,Gv,Gx,Gu,szN,Gw,Hi]
        rw [← h4, List.drop_eq_nil_of_le hlt]
        rfl))
end Go.Am.Ty
set_option linter.unusedSimpArgs false
set_option linter.unusedVariables false
set_option maxHeartbeats 0
namespace Go.Am.Ty
open Go.Proofs
open Enc (enc dec)
abbrev n0 : Node := ⟨0, [], 0⟩
def isRow3 (n : Node) : Bool := n.kind == 6 || n.kind == 7
def labK (p x prev : Node) (pos last : Bool) : Bool :=
  cond (x.kind == 9) (isRow3 p && (last && x.name == []))
    (!((p.kind == 6 && !B5 x.name) || (p.kind == 7 && !Ox x.name)) && (!(!isRow3 p && !(x.name == [])) && !(isRow3 p && (pos && !Op.bytesLess prev.name x.name))))
def Ow (t : List Node) (l : List Int) (k : Nat) : Node := t.getD (l.getD k 0).toNat n0
def labAt (t : List Node) (i : Nat) (l : List Int) (k : Nat) : Bool := labK (t.getD i n0) (Ow t l k) (Ow t l (k - 1)) (ltB 0 k) ((k : Int) == (l.length : Int) - 1)
def lab3 (t : List Node) (i : Nat) : Bool := (((Tv t i).length : Int) == Py (t.getD i n0)) && (List.range (Tv t i).length).all fun k => labAt t i (Tv t i) k
def I0 (t : List Node) : Prop := ∀ n ∈ t, n.name.length ≤ 9223372036854775807
theorem kidsFrom_in (t : List Node) : ∀ (m q : Nat), ∀ x ∈ Pb t m q, (q : Int) ≤ x ∧ x < t.length
  | 0, q, x, hx => by simp [Pb] at hx
  | m + 1, q, x, hx => by
    unfold Pb at hx
    split at hx
    · rcases List.mem_cons.1 hx with rfl | hx
      · omega
      · have := kidsFrom_in t m _ x hx
        omega
    · cases hx
theorem kids3_in {t : List Node} {i : Nat} : ∀ x ∈ Tv t i, (i : Int) < x ∧ x < t.length := by
  intro x hx
  unfold Tv at hx
  split at hx
  · cases hx
  · have := kidsFrom_in t _ _ x hx
    omega
theorem kidsFrom_len (t : List Node) : ∀ (m q : Nat), (Pb t m q).length ≤ m
  | 0, q => by simp [Pb]
  | m + 1, q => by
    unfold Pb
    split
    · simp only [List.length_cons]
      have := kidsFrom_len t m (q + eat (t.drop q) 1)
      omega
    · simp
def M6 : Con := C0 (fun (t : Sl Node) (i : Int) => Tame t.l ∧ I0 t.l ∧ 0 ≤ i ∧ i < t.l.length) (fun t i => lab3 t.l i.toNat)
noncomputable def L9 : Ctx := ⟨tab, lkC [(32, Nz), (46, Pt), (47, Hd), (48, Hk)], 60, lkB [], [], false⟩
theorem Rm : L9.τ = tab := rfl
theorem Ro : L9.Γ = lkC [(32, Nz), (46, Pt), (47, Hd), (48, Hk)] := rfl
theorem Rn : L9.dp = 60 := rfl
theorem Rp : L9.Δ = lkB [] := rfl
theorem Rl : L9.cuts = [] := rfl
theorem Rk : L9.wr = false := rfl
set_option maxRecDepth 100000 in
theorem good_labelled3 : M7 Try.prog (30, M6) := by
  refine ⟨He Try.func30 (by kernel_rfl) rfl, ?_⟩
  have K : Nh Try.prog L9 := Hl Ny Ht (by
    intro p hp
    simp only [List.mem_cons, List.not_mem_nil, or_false] at hp
    rcases hp with rfl | rfl | rfl | rfl
    · exact good_many3
    · exact good_Kids3
    · exact Rv
    · exact good_IsTag1) (by simp)
  obtain ⟨c, hc⟩ : ∃ c, Try.f30.body = some c := ⟨_, rfl⟩
  refine Hm K Try.func30 hc [.tmp 4] rfl 123 rfl (fun cvs hpre => ?_)
  change M6.pre cvs at hpre
  unfold M6 at hpre
  obtain ⟨⟨t⟩, i, rfl, hT, hN, hi0, hi1⟩ := Mp hpre
  simp only at hT hN hi0 hi1
  obtain ⟨i, rfl⟩ : ∃ n : Nat, i = n := ⟨i.toNat, by omega⟩
  have hil : i < t.length := by omega
  have hlen := hT.1
  obtain ⟨l, hl⟩ : ∃ l, Tv t i = l := ⟨_, rfl⟩
  have hin : ∀ x ∈ l, (i : Int) < x ∧ x < t.length := by rw [← hl]; exact kids3_in
  have hll : l.length ≤ 100000 := by
    rw [← hl]
    unfold Tv
    split
    · simp
    · have h1 := kidsFrom_len t (Py (t.getD (Int.toNat i) ⟨0, [], 0⟩)).toNat ((Int.toNat i) + 1)
      have h2 := (hT.2 (t.getD i ⟨0, [], 0⟩) (by simp [hil])).2
      simp only [Int.toNat_natCast] at h1 ⊢
      omega
  have hlab : lab3 t i = (((l.length : Int) == Py (t.getD i n0)) && (List.range l.length).all fun k => labAt t i l k) := by
    unfold lab3
    rw [hl]
  simp only [Try.f30, Option.some.injEq] at hc
  subst hc
  refine Mn 7 (of_decide_eq_true (by kernel_rfl)) ?_
  have zz1 := H7 n0 hil
  (sym =>
   simp [hl,zz1,Int.toNat_natCast,Gt,Gv,Gx,Gu,szN,Gw,Rm,Ro,Rn,Rp,Rl,Rk,Hk.eq_def,Hd.eq_def,Pt.eq_def,M6.eq_def,Nz.eq_def,Za,Zb,Zc,Zd,Ze,Zf,Zg,Zh,Zi,Zj,Zk,Zl,Zm,Zn,Zo,Zp,Zq,Zr,Zs,Zt,Zu,Zv,Zw,Zx,Zy,Z5,Z8,Z9,Qa,Qb,Qc,Qd,Qe,Qf,Qg,Qj,Qk,Ql,Qm,Qn,Qo,Qp,Qq,Qr,Q0,Q1,Q4,Q5,Q6,Q8,Q9,Ja,Jf,Jh,Ji,Jj,Jk,Jl,Jt,Jx,Jy,Jz,J0,J1,J2,J5,J6,J7,J8,J9,Xa,Xb,Xc,Xd,Xe,Xf,Xg,Xj,Xk,Xl,Xm,Xn,Xo,Xp,Xq,Xr,Xs,Xt,Xu,Xv,Xw,Xx,Xy,Xz,X1,X2,X3,X4,X5,X6,X7,X8,We,Wf,Wg,Wh,Wi,Wj,Wl,Wm,Wn,Wo,Wp,Wq,Wr,Ws,Wt,Wu,Wv,Ww,Wx,Wy,Wz,W0,W3,W4,W5,W6,W7,W8,W9,Ya,Yb,Yc,Yd,Ye,Yf,Yg,Yh,Yi,Yj,Yk,Yl,Ym,Yn,Yo,Yr,Ys,Yt,Yu,Yv,Yw,Yx,Yy,Yz,Y1,Y2,Y3,Y4,Y5,Y6,Y7,Y8,Y9,Va,Vb,Vc,Vd,Ve,Vf,Vg,Vh,Vi,Vj,Vk,Vl,Vm,Vn,Vo,Vp,Vq,Vr,Vs,Vt,Vu,Vv,Vw,Vx,Vy,Vz,V0,V1,V2,V3,V4,V5,V6,V7,V8,V9,Ua,Ub,Uc,Ud,Ue,Uf,Ug,Uh,Ui,Uj,Uk,Ul,Um,Un,Uo,Up,Uq,Ur,Us,Ut,Uu,Uv,Uw,Ux,Uy,Uz,U0,U1,U2,U5,U6,U7,U8,U9,Ka,Kb,Kc,Kd,Ke,Kf,Kg,Kh,Ki,Kj,Kk,Kl,Km,Kn,Ko,Kq,Kr,Ks,Kt,Ku,Kv,Kw,Kx,Ky,Kz,K0,K1,K2,K3,K4,K5,K6,K7,Gg,Gi,Gj,Gk,Gl,Gm,Gn,Gr,Gs,Hg,Nf,H3,Hc,Hb,Mt]
   tactic =>
    try simp only [G6] at *
    try simp only [nc2] at *
    try simp (maxSteps := 4000000) only [hl,zz1,Int.toNat_natCast,Gt,Gv,Gx,Gu,szN,Gw,Hi]
    repeat' (first | with_reducible assumption | with_reducible refine And.intro ?_ ?_ | intro _ | omega | (rw [Gy]; omega))
    · rename_i hne
      rw [hlab]
      rw [show ((l.length : Int) == Py (t.getD i n0)) = false by simpa using hne]
      rfl
    · rename_i heq
      have hlab' : lab3 t i = (List.range l.length).all fun k => labAt t i l k := by
        rw [hlab, show ((l.length : Int) == Py (t.getD i n0)) = true by simpa using heq]
        rfl
      refine Ho [4, 7, 8, 9, 21, 22, 23, 24, 25, 26, 27, 28, 29, 30, 31, 32, 33, 34, 35, 36, 37, 38, 39, 40, 41, 42, 43, 44, 45, 46, 47, 48, 49, 50, 51, 52, 53, 54, 55, 56, 57, 58, 59, 60, 61, 62, 63, 64, 65, 66, 67, 68, 69, 70, 71, 72, 73, 74, 75, 76, 77, 78, 79, 80, 81, 82, 83, 84, 85, 86, 87, 88, 89, 90, 91, 92, 93, 94, 95, 96, 97, 98, 99, 100, 101, 102, 103, 104, 105, 106, 107, 108, 109, 110, 111, 112, 113, 114, 115, 116, 117, 118, 119, 120, 121, 122] (fun k : Nat => [(6, .d (.int .i64 k))]) (fun k : Nat => []) (fun k : Nat => k ≤ l.length ∧ ∀ j, j < k → labAt t i l j = true) (fun k : Nat => l.length - k) 0 ?_ ?_ ?_
      · simp
      · ((try simp only [G3, Ha, G5, Hf, upd, Hh, Hn, Na, Nat.reduceDiv, Nat.reduceMod, Nat.reduceMul, Nat.reduceAdd, Nat.reduceEqDiff, List.set_cons_zero, List.set_cons_succ, if_true, if_false, reduceIte]); (first | refine Wk.of_fl ?_ | skip); simp only [Wk, wkK, Nd, wkT, wk1, AV.kept, keptAll, wkO, lk, G4, and_true, true_and, and_self, Nat.reduceEqDiff, Nat.reduceLeDiff, if_true, if_false, reduceIte, reduceCtorEq, Option.isSome, false_implies]; try simp [Wk, wkK, wkT, wk1, AV.kept, keptAll, wkO, lk, G4])
      rintro k ⟨hk, hno⟩
      rcases Hq k l.length with ⟨hlt, hlb⟩ | ⟨hlt, hlb⟩
      · have hki := hin (l.getD k 0) (by simp [hlt])
        have hkt : (l.getD k 0).toNat < t.length := by omega
        have hkn := hN (Ow t l k) (by
          show t.getD _ n0 ∈ t
          rw [List.getD_eq_getElem?_getD, List.getElem?_eq_getElem hkt]
          exact List.getElem_mem hkt)
        have hyes : labAt t i l k = true → ∀ j, j < k + 1 → labAt t i l j = true := by
          intro h j hj
          by_cases hjk : j = k
          · subst hjk; exact h
          · exact hno j (by omega)
        have hbad : labAt t i l k = false → false = lab3 t i := by
          intro h
          rw [hlab', eq_comm, Bool.eq_false_iff]
          intro hc
          rw [List.all_eq_true] at hc
          have := hc k (List.mem_range.2 hlt)
          rw [h] at this
          cases this
        have ek : t.getD (l.getD k 0).toNat ⟨0, [], 0⟩ = Ow t l k := rfl
        have hyes : labK (t.getD i n0) (Ow t l k) (Ow t l (k - 1)) (ltB 0 k) ((k : Int) == (l.length : Int) - 1) = true → ∀ j, j < k + 1 → labAt t i l j = true := hyes
        have hbad : labK (t.getD i n0) (Ow t l k) (Ow t l (k - 1)) (ltB 0 k) ((k : Int) == (l.length : Int) - 1) = false → false = lab3 t i := hbad
        have hprev : t.getD (l.getD (k - 1) 0).toNat ⟨0, [], 0⟩ = Ow t l (k - 1) := rfl
        obtain ⟨x, hx⟩ : ∃ x, Ow t l k = x := ⟨_, rfl⟩
        obtain ⟨prev, hp0⟩ : ∃ x, Ow t l (k - 1) = x := ⟨_, rfl⟩
        obtain ⟨p, hp⟩ : ∃ x, t.getD i n0 = x := ⟨_, rfl⟩
        rw [hx, hp0, hp] at hyes hbad
        rw [hx] at hkn ek
        rw [hp0] at hprev
        have eip : t.getD i ⟨0, [], 0⟩ = p := hp
        have hk1 : k - 1 < l.length := by omega
        have hpi := hin (l.getD (k - 1) 0) (by simp [hk1])
        have hpt : (l.getD (k - 1) 0).toNat < t.length := by omega
        have em : ((k : Int) - 1).toNat = k - 1 := by omega
        have hc : ((p.kind == 6) = true ∧ (p.kind == 7) = false) ∨ ((p.kind == 6) = false ∧ (p.kind == 7) = true) ∨ ((p.kind == 6) = false ∧ (p.kind == 7) = false) := by
          simp only [beq_iff_eq, beq_eq_false_iff_ne, ne_eq]
          omega
        rcases hc with ⟨h6, h7⟩ | ⟨h6, h7⟩ | ⟨h6, h7⟩
        all_goals
          have zz2 := H7 (0 : Int) hlt
          have zz3 := H7 n0 hkt
          have zz4 := H7 n0 hil
          have zz5 := H7 (0 : Int) hk1
          have zz6 := H7 n0 hpt
          (sym =>
           simp [hlb,eip,h6,h7,zz2,zz3,zz4,ek,em,zz5,zz6,hprev,Gt,Gv,Gx,Gu,szN,Gw,Rm,Ro,Rn,Rp,Rl,Rk,Hk.eq_def,Hd.eq_def,Pt.eq_def,M6.eq_def,Nz.eq_def,Za,Zb,Zc,Zd,Ze,Zf,Zg,Zh,Zi,Zj,Zk,Zl,Zm,Zn,Zo,Zp,Zq,Zr,Zs,Zt,Zu,Zv,Zw,Zx,Zy,Z5,Z8,Z9,Qa,Qb,Qc,Qd,Qe,Qf,Qg,Qj,Qk,Ql,Qm,Qn,Qo,Qp,Qq,Qr,Q0,Q1,Q4,Q5,Q6,Q8,Q9,Ja,Jf,Jh,Ji,Jj,Jk,Jl,Jt,Jx,Jy,Jz,J0,J1,J2,J5,J6,J7,J8,J9,Xa,Xb,Xc,Xd,Xe,Xf,Xg,Xj,Xk,Xl,Xm,Xn,Xo,Xp,Xq,Xr,Xs,Xt,Xu,Xv,Xw,Xx,Xy,Xz,X1,X2,X3,X4,X5,X6,X7,X8,We,Wf,Wg,Wh,Wi,Wj,Wl,Wm,Wn,Wo,Wp,Wq,Wr,Ws,Wt,Wu,Wv,Ww,Wx,Wy,Wz,W0,W3,W4,W5,W6,W7,W8,W9,Ya,Yb,Yc,Yd,Ye,Yf,Yg,Yh,Yi,Yj,Yk,Yl,Ym,Yn,Yo,Yr,Ys,Yt,Yu,Yv,Yw,Yx,Yy,Yz,Y1,Y2,Y3,Y4,Y5,Y6,Y7,Y8,Y9,Va,Vb,Vc,Vd,Ve,Vf,Vg,Vh,Vi,Vj,Vk,Vl,Vm,Vn,Vo,Vp,Vq,Vr,Vs,Vt,Vu,Vv,Vw,Vx,Vy,Vz,V0,V1,V2,V3,V4,V5,V6,V7,V8,V9,Ua,Ub,Uc,Ud,Ue,Uf,Ug,Uh,Ui,Uj,Uk,Ul,Um,Un,Uo,Up,Uq,Ur,Us,Ut,Uu,Uv,Uw,Ux,Uy,Uz,U0,U1,U2,U5,U6,U7,U8,U9,Ka,Kb,Kc,Kd,Ke,Kf,Kg,Kh,Ki,Kj,Kk,Kl,Km,Kn,Ko,Kq,Kr,Ks,Kt,Ku,Kv,Kw,Kx,Ky,Kz,K0,K1,K2,K3,K4,K5,K6,K7,Gg,Gi,Gj,Gk,Gl,Gm,Gn,Gr,Gs,Hg,Nf,H3,Hc,Hb,Mt]
           tactic =>
            try simp only [G6] at *
            try simp only [nc2] at *
            try simp (maxSteps := 4000000) only [hlb,eip,h6,h7,zz2,zz3,zz4,ek,em,zz5,zz6,hprev,Gt,Gv,Gx,Gu,szN,Gw,Hi]
            repeat' (first | with_reducible assumption | with_reducible refine And.intro ?_ ?_ | intro _ | omega | (rw [Gy]; omega))
            all_goals first
              | (with_reducible refine Hu ?_; kernel_rfl)
              | exact hbad (by clear hyes hbad heq hlab hlab' hno; simp_all [labK, isRow3, ltB])
              | exact ⟨k + 1, by ((try simp only [G3, Ha, G5, Hf, upd, Hh, Hn, Na, Nat.reduceDiv, Nat.reduceMod, Nat.reduceMul, Nat.reduceAdd, Nat.reduceEqDiff, List.set_cons_zero, List.set_cons_succ, if_true, if_false, reduceIte]); (first | refine Wk.of_fl ?_ | skip); simp only [Wk, wkK, Nd, wkT, wk1, AV.kept, keptAll, wkO, lk, G4, and_true, true_and, and_self, Nat.reduceEqDiff, Nat.reduceLeDiff, if_true, if_false, reduceIte, reduceCtorEq, Option.isSome, false_implies]; try simp [Wk, wkK, wkT, wk1, AV.kept, keptAll, wkO, lk, G4]), by omega, hyes (by clear hyes hbad heq hlab hlab' hno; simp_all [labK, isRow3, ltB]), by omega⟩)
      · (sym =>
         simp [hlb,Gt,Gv,Gx,Gu,szN,Gw,Rm,Ro,Rn,Rp,Rl,Rk,Hk.eq_def,Hd.eq_def,Pt.eq_def,M6.eq_def,Nz.eq_def,Za,Zb,Zc,Zd,Ze,Zf,Zg,Zh,Zi,Zj,Zk,Zl,Zm,Zn,Zo,Zp,Zq,Zr,Zs,Zt,Zu,Zv,Zw,Zx,Zy,Z5,Z8,Z9,Qa,Qb,Qc,Qd,Qe,Qf,Qg,Qj,Qk,Ql,Qm,Qn,Qo,Qp,Qq,Qr,Q0,Q1,Q4,Q5,Q6,Q8,Q9,Ja,Jf,Jh,Ji,Jj,Jk,Jl,Jt,Jx,Jy,Jz,J0,J1,J2,J5,J6,J7,J8,J9,Xa,Xb,Xc,Xd,Xe,Xf,Xg,Xj,Xk,Xl,Xm,Xn,Xo,Xp,Xq,Xr,Xs,Xt,Xu,Xv,Xw,Xx,Xy,Xz,X1,X2,X3,X4,X5,X6,X7,X8,We,Wf,Wg,Wh,Wi,Wj,Wl,Wm,Wn,Wo,Wp,Wq,Wr,Ws,Wt,Wu,Wv,Ww,Wx,Wy,Wz,W0,W3,W4,W5,W6,W7,W8,W9,Ya,Yb,Yc,Yd,Ye,Yf,Yg,Yh,Yi,Yj,Yk,Yl,Ym,Yn,Yo,Yr,Ys,Yt,Yu,Yv,Yw,Yx,Yy,Yz,Y1,Y2,Y3,Y4,Y5,Y6,Y7,Y8,Y9,Va,Vb,Vc,Vd,Ve,Vf,Vg,Vh,Vi,Vj,Vk,Vl,Vm,Vn,Vo,Vp,Vq,Vr,Vs,Vt,Vu,Vv,Vw,Vx,Vy,Vz,V0,V1,V2,V3,V4,V5,V6,V7,V8,V9,Ua,Ub,Uc,Ud,Ue,Uf,Ug,Uh,Ui,Uj,Uk,Ul,Um,Un,Uo,Up,Uq,Ur,Us,Ut,Uu,Uv,Uw,Ux,Uy,Uz,U0,U1,U2,U5,U6,U7,U8,U9,Ka,Kb,Kc,Kd,Ke,Kf,Kg,Kh,Ki,Kj,Kk,Kl,Km,Kn,Ko,Kq,Kr,Ks,Kt,Ku,Kv,Kw,Kx,Ky,Kz,K0,K1,K2,K3,K4,K5,K6,K7,Gg,Gi,Gj,Gk,Gl,Gm,Gn,Gr,Gs,Hg,Nf,H3,Hc,Hb,Mt]
         tactic =>
          try simp only [G6] at *
          try simp only [nc2] at *
          try simp (maxSteps := 4000000) only [hlb,Gt,Gv,Gx,Gu,szN,Gw,Hi]
          rw [hlab', eq_comm, List.all_eq_true]
          intro j hj
          exact hno j (by have := List.mem_range.1 hj; omega)))
end Go.Am.Ty
set_option linter.unusedSimpArgs false
set_option linter.unusedVariables false
namespace Go.Rose
inductive Rose (α : Type) where
  | mk (n : α) (ks : List (Rose α))
namespace Rose
variable {α : Type}
def root : Rose α → α
  | mk n _ => n
def kids : Rose α → List (Rose α)
  | mk _ ks => ks
mutual
def nds : Rose α → List α
  | mk n ks => n :: ndss ks
def ndss : List (Rose α) → List α
  | [] => []
  | x :: xs => nds x ++ ndss xs
end
mutual
def wf (ar : α → Nat) : Rose α → Prop
  | mk n ks => ks.length = ar n ∧ wfs ar ks
def wfs (ar : α → Nat) : List (Rose α) → Prop
  | [] => True
  | x :: xs => wf ar x ∧ wfs ar xs
end
mutual
def depth : Rose α → Nat
  | mk _ ks => 1 + depths ks
def depths : List (Rose α) → Nat
  | [] => 0
  | x :: xs => max (depth x) (depths xs)
end
end Rose
open Rose
variable {α : Type} {ar : α → Nat}
theorem A3 : ∀ (a b : List (Rose α)), ndss (a ++ b) = ndss a ++ ndss b
  | [], b => by simp [ndss]
  | x :: a, b => by simp [ndss, A3 a b]
theorem wfs_append : ∀ {a b : List (Rose α)}, wfs ar (a ++ b) ↔ wfs ar a ∧ wfs ar b
  | [], b => by simp [wfs]
  | x :: a, b => by simp only [List.cons_append, wfs, wfs_append (a := a), and_assoc]
theorem I5 (n : α) (ks : List (Rose α)) : nds (mk n ks) = n :: ndss ks := by simp [nds]
theorem nds_pos (x : Rose α) : 1 ≤ (nds x).length := by cases x; simp [nds]
theorem nds_eta (x : Rose α) : nds x = x.root :: ndss x.kids := by cases x; simp [nds, root, kids]
theorem wf_eta {x : Rose α} : wf ar x ↔ x.kids.length = ar x.root ∧ wfs ar x.kids := by cases x; simp [wf, root, kids]
def eatN (ar : α → Nat) : List α → Nat → Option Nat
  | _, 0 => some 0
  | [], _ + 1 => none
  | n :: l, o + 1 => (eatN ar l (o + ar n)).map (· + 1)
theorem eatN_ndss (ar : α → Nat) : ∀ (m : Nat) (ts : List (Rose α)) (r : List α), (ndss ts).length ≤ m → wfs ar ts → ∀ o, eatN ar (ndss ts ++ r) (ts.length + o) = (eatN ar r o).map (· + (ndss ts).length)
  | m, [], r, _, _, o => by simp [ndss, eatN]
  | 0, mk n ks :: ts, r, hm, _, o => by simp [ndss, nds] at hm
  | m + 1, mk n ks :: ts, r, hm, hw, o => by
    obtain ⟨⟨h1, h2⟩, h3⟩ := hw
    simp only [ndss, nds, List.cons_append, List.length_cons, List.length_append] at hm ⊢
    rw [show ts.length + 1 + o = (ts.length + o) + 1 by omega, eatN, List.append_assoc]
    rw [show ts.length + o + ar n = ks.length + (ts.length + o) by omega, eatN_ndss ar m ks (ndss ts ++ r) (by omega) h2 (ts.length + o), eatN_ndss ar m ts r (by omega) h3 o]
    cases eatN ar r o with
    | none => rfl
    | some k => simp only [Option.map_some]; congr 1; omega
theorem eatN_nds {x : Rose α} (h : wf ar x) (r : List α) : eatN ar (nds x ++ r) 1 = some (nds x).length := by
  have := eatN_ndss ar _ [x] r (Nat.le_refl _) ⟨h, trivial⟩ 0
  simpa [ndss, eatN] using this
theorem ndss_inj : ∀ (m : Nat) {ts us : List (Rose α)} {r s : List α}, (ndss ts).length ≤ m → wfs ar ts → wfs ar us → ts.length = us.length → ndss ts ++ r = ndss us ++ s → ts = us ∧ r = s
  | m, [], us, r, s, _, _, _, hl, h => by
    have : us = [] := List.length_eq_zero_iff.1 hl.symm
    subst this
    exact ⟨rfl, by simpa [ndss] using h⟩
  | m, _ :: _, [], _, _, _, _, _, hl, _ => by simp at hl
  | 0, mk n ks :: ts, _, _, _, hm, _, _, _, _ => by simp [ndss, nds] at hm
  | m + 1, mk n ks :: ts, mk p qs :: us, r, s, hm, ht, hu, hl, h => by
    obtain ⟨⟨h1, h2⟩, h3⟩ := ht
    obtain ⟨⟨g1, g2⟩, g3⟩ := hu
    simp only [ndss, nds, List.cons_append, List.cons.injEq, List.length_cons, List.length_append] at h hm hl
    obtain ⟨rfl, h⟩ := h
    rw [← A3, ← A3] at h
    obtain ⟨e1, e2⟩ := ndss_inj m (ts := ks ++ ts) (us := qs ++ us) (by rw [A3, List.length_append]; omega) (wfs_append.2 ⟨h2, h3⟩) (wfs_append.2 ⟨g2, g3⟩) (by simp only [List.length_append]; omega) h
    obtain ⟨e3, e4⟩ := List.append_inj e1 (by rw [h1, g1])
    exact ⟨by rw [e3, e4], e2⟩
theorem nds_inj {x y : Rose α} {r s : List α} (hx : wf ar x) (hy : wf ar y) (h : nds x ++ r = nds y ++ s) : x = y ∧ r = s := by
  obtain ⟨h1, h2⟩ := ndss_inj (ar := ar) _ (ts := [x]) (us := [y]) (Nat.le_refl _) ⟨hx, trivial⟩ ⟨hy, trivial⟩ rfl (by simpa [ndss] using h)
  injection h1 with h1
  exact ⟨h1, h2⟩
def At (ar : α → Nat) (l : List α) (i : Nat) (x : Rose α) : Prop := wf ar x ∧ ∃ r, l.drop i = nds x ++ r
theorem At.inj {l : List α} {i : Nat} {x y : Rose α} (hx : At ar l i x) (hy : At ar l i y) : x = y := by
  obtain ⟨h1, r, h2⟩ := hx
  obtain ⟨g1, s, g2⟩ := hy
  exact (nds_inj h1 g1 (h2.symm.trans g2)).1
theorem At.le {l : List α} {i : Nat} {x : Rose α} (h : At ar l i x) : i + (nds x).length ≤ l.length := by
  obtain ⟨_, r, h2⟩ := h
  have h3 := congrArg List.length h2
  rw [List.length_drop, List.length_append] at h3
  have := nds_pos x
  omega
theorem At.lt {l : List α} {i : Nat} {x : Rose α} (h : At ar l i x) : i < l.length := by
  have := h.le
  have := nds_pos x
  omega
theorem At.root {l : List α} {i : Nat} {x : Rose α} (h : At ar l i x) (d : α) : l.getD i d = x.root := by
  obtain ⟨_, r, h2⟩ := h
  have h3 : (l.drop i).getD 0 d = x.root := by rw [h2, nds_eta]; rfl
  simpa [List.getD_eq_getElem?_getD] using h3
def Ats (ar : α → Nat) (l : List α) (i : Nat) (xs : List (Rose α)) : Prop := wfs ar xs ∧ ∃ r, l.drop i = ndss xs ++ r
theorem At.kids {l : List α} {i : Nat} {x : Rose α} (h : At ar l i x) : Ats ar l (i + 1) x.kids ∧ x.kids.length = ar x.root := by
  obtain ⟨h1, r, h2⟩ := h
  rw [wf_eta] at h1
  refine ⟨⟨h1.2, r, ?_⟩, h1.1⟩
  rw [nds_eta] at h2
  have h3 : (l.drop i).drop 1 = (ndss x.kids ++ r) := by rw [h2]; rfl
  rwa [List.drop_drop] at h3
theorem Ats.head {l : List α} {i : Nat} {x : Rose α} {xs : List (Rose α)} (h : Ats ar l i (x :: xs)) : At ar l i x ∧ Ats ar l (i + (nds x).length) xs := by
  obtain ⟨⟨h1, h2⟩, r, h3⟩ := h
  refine ⟨⟨h1, ndss xs ++ r, by rw [h3]; simp [ndss]⟩, h2, r, ?_⟩
  rw [← List.drop_drop, h3]
  simp [ndss]
theorem at_whole {x : Rose α} (h : wf ar x) : At ar (nds x) 0 x := ⟨h, [], by simp⟩
theorem at_eatN {l : List α} {i : Nat} {x : Rose α} (h : At ar l i x) : eatN ar (l.drop i) 1 = some (nds x).length := by
  obtain ⟨h1, r, h2⟩ := h
  rw [h2]
  exact eatN_nds h1 r
open Classical in
theorem At.mem {l : List α} {i : Nat} {x : Rose α} (h : At ar l i x) : ∀ n ∈ nds x, n ∈ l := fun n hn => by
  obtain ⟨_, r, h2⟩ := h
  exact List.mem_of_mem_drop (i := i) (by rw [h2]; exact List.mem_append_left _ hn)
end Go.Rose
set_option linter.unusedSimpArgs false
set_option linter.unusedVariables false
set_option maxHeartbeats 1000000
namespace Go.Am.Ty
open Go.Proofs
open Enc (enc dec)
theorem numb3_tame {n : Node} (h : Tg n = true) : 0 ≤ Py n ∧ Py n ≤ 50 := by
  unfold Tg at h
  unfold Py
  by_cases h5 : n.kind = 5
  · rw [if_pos h5]; omega
  · rw [if_neg h5]
    by_cases h67 : n.kind = 6 ∨ n.kind = 7
    · rw [if_pos h67]
      rw [if_neg (by omega), if_neg (by omega)] at h
      by_cases h6 : n.kind = 6
      · rw [if_pos h6] at h
        simpa using h
      · rw [if_neg h6, if_pos (by omega)] at h
        simp only [Bool.and_eq_true, decide_eq_true_eq] at h
        omega
    · rw [if_neg h67]; omega
def Pm (t : List Node) : Bool := t.length == 0 || ltB 10000 t.length || !((t.getD 0 n0).name == []) || (t.getD 0 n0).kind == 9
def Bc (t : List Node) : Bool := !Pm t && (t.all Tg && ((end3 t 0 == (t.length : Int) && Ab t) && (List.range t.length).all fun i => lab3 t i))
theorem Cg {p : Nat → Bool} {n : Nat} (h : ∀ j, j < n → p j = true) : (List.range n).all p = true := by
  rw [List.all_eq_true]
  intro j hj
  exact h j (List.mem_range.1 hj)
theorem C3 {p : Nat → Bool} {n : Nat} (j : Nat) (hj : j < n) (h : p j = false) : (List.range n).all p = false := by
  rw [Bool.eq_false_iff]
  intro hc
  rw [List.all_eq_true] at hc
  have := hc j (List.mem_range.2 hj)
  rw [h] at this
  cases this
def H5 : Con := Sn (fun (t : Sl Node) => t.l.length ≤ 9223372036854775807 ∧ I0 t.l) (fun t => Bc t.l)
noncomputable def Dt : Ctx := ⟨tab, lkC [(13, N1), (28, Pk), (29, Mr), (30, M6)], 60, lkB [], [], false⟩
theorem Cu : Dt.τ = tab := rfl
theorem Cw : Dt.Γ = lkC [(13, N1), (28, Pk), (29, Mr), (30, M6)] := rfl
theorem Cv : Dt.dp = 60 := rfl
theorem Cx : Dt.Δ = lkB [] := rfl
theorem Ct : Dt.cuts = [] := rfl
theorem Cs : Dt.wr = false := rfl
set_option maxRecDepth 100000 in
theorem Ib : M7 Try.prog (10, H5) := by
  refine ⟨He Try.func10 (by kernel_rfl) rfl, ?_⟩
  have K : Nh Try.prog Dt := Hl Ny Ht (by
    intro p hp
    simp only [List.mem_cons, List.not_mem_nil, or_false] at hp
    rcases hp with rfl | rfl | rfl | rfl
    · exact good_End3
    · exact good_numbered3
    · exact good_shallow3
    · exact good_labelled3) (by simp)
  obtain ⟨c, hc⟩ : ∃ c, Try.f10.body = some c := ⟨_, rfl⟩
  refine Hm K Try.func10 hc [.tmp 2] rfl 59 rfl (fun cvs hpre => ?_)
  change H5.pre cvs at hpre
  unfold H5 at hpre
  obtain ⟨⟨t⟩, rfl, ht, hN⟩ := Nw hpre
  simp only at ht hN
  simp only [Try.f10, Option.some.injEq] at hc
  subst hc
  refine Mn 3 (of_decide_eq_true (by kernel_rfl)) ?_
  by_cases h0 : t.length = 0
  · have hz : ((t.length : Int) == 0) = true := by simp [h0]
    (sym =>
     simp [hz,Gt,Gv,Gx,Gu,szN,Gw,Cu,Cw,Cv,Cx,Ct,Cs,N1.eq_def,H5.eq_def,M6.eq_def,Pk.eq_def,Mr.eq_def,Za,Zb,Zc,Zd,Ze,Zf,Zg,Zn,Zo,Zp,Zq,Zr,Zs,Zt,Zv,Zx,Zy,Z5,Z8,Z9,Qa,Qb,Qc,Qd,Qe,Qf,Qg,Qk,Ql,Qm,Qn,Qo,Qp,Qr,Q0,Q1,Q4,Q8,Q9,Ja,Jf,Jh,Ji,Jj,Jk,Jl,Jt,Jx,Jy,Jz,J0,J1,J2,J5,J6,J7,J8,J9,Xa,Xb,Xc,Xd,Xe,Xf,Xg,Xj,Xk,Xl,Xm,Xn,Xo,Xp,Xq,Xr,Xs,Xt,Xu,Xv,Xw,Xx,Xy,X1,X2,X3,X4,X5,X6,X7,X8,We,Wf,Wg,Wh,Wi,Wj,Wl,Wm,Wn,Wo,Wp,Ws,Wt,Wu,Wv,Ww,Wx,Wy,Wz,W0,W3,W4,W5,W6,W7,W8,W9,Ya,Yb,Yc,Yd,Ye,Yf,Yg,Yh,Yi,Yj,Yk,Yl,Ym,Yn,Yo,Yr,Ys,Yt,Yu,Yv,Yw,Yx,Yy,Yz,Y1,Y2,Y3,Y4,Y5,Y6,Y7,Y8,Y9,Va,Vb,Vc,Vd,Ve,Vf,Vg,Vh,Vi,Vj,Vk,Vl,Vm,Vn,Vo,Vp,Vq,Vr,Vs,Vt,Vu,Vv,Vw,Vx,Vy,Vz,V0,V1,V2,V3,V4,V5,V6,V7,V8,V9,Ua,Ub,Uc,Ud,Ue,Uf,Ug,Uh,Ui,Uj,Uk,Ul,Um,Un,Uo,Up,Uq,Ur,Us,Ut,Uu,Uv,U1,U2,U5,U6,U7,U8,U9,Ka,Kb,Kc,Kd,Ke,Kf,Kg,Kh,Ki,Kj,Kk,Kl,Km,Kn,Ko,Kq,Kr,Ks,Kt,Ku,Kv,Kw,Kx,Ky,Kz,K0,K1,K2,K3,K4,K5,K6,K7,Gg,Gi,Gj,Gk,Gl,Gm,Gn,Gr,Hg,Nf,H3,Hc,Hb]
     tactic =>
      try simp only [G6] at *
      try simp only [nc2] at *
      try simp (maxSteps := 4000000) only [hz,Gt,Gv,Gx,Gu,szN,Gw,Hi]
      unfold Bc Pm
      simp [h0])
  have hz : ((t.length : Int) == 0) = false := by rw [beq_eq_false_iff_ne]; omega
  have hlt0 : 0 < t.length := by omega
  have heb : Pm t = true → false = Bc t := by
    intro h; unfold Bc; rw [h]; rfl
  have zz1 := H7 n0 hlt0
  (sym =>
   simp [hz,zz1,Gt,Gv,Gx,Gu,szN,Gw,Cu,Cw,Cv,Cx,Ct,Cs,N1.eq_def,H5.eq_def,M6.eq_def,Pk.eq_def,Mr.eq_def,Za,Zb,Zc,Zd,Ze,Zf,Zg,Zn,Zo,Zp,Zq,Zr,Zs,Zt,Zv,Zx,Zy,Z5,Z8,Z9,Qa,Qb,Qc,Qd,Qe,Qf,Qg,Qk,Ql,Qm,Qn,Qo,Qp,Qr,Q0,Q1,Q4,Q8,Q9,Ja,Jf,Jh,Ji,Jj,Jk,Jl,Jt,Jx,Jy,Jz,J0,J1,J2,J5,J6,J7,J8,J9,Xa,Xb,Xc,Xd,Xe,Xf,Xg,Xj,Xk,Xl,Xm,Xn,Xo,Xp,Xq,Xr,Xs,Xt,Xu,Xv,Xw,Xx,Xy,X1,X2,X3,X4,X5,X6,X7,X8,We,Wf,Wg,Wh,Wi,Wj,Wl,Wm,Wn,Wo,Wp,Ws,Wt,Wu,Wv,Ww,Wx,Wy,Wz,W0,W3,W4,W5,W6,W7,W8,W9,Ya,Yb,Yc,Yd,Ye,Yf,Yg,Yh,Yi,Yj,Yk,Yl,Ym,Yn,Yo,Yr,Ys,Yt,Yu,Yv,Yw,Yx,Yy,Yz,Y1,Y2,Y3,Y4,Y5,Y6,Y7,Y8,Y9,Va,Vb,Vc,Vd,Ve,Vf,Vg,Vh,Vi,Vj,Vk,Vl,Vm,Vn,Vo,Vp,Vq,Vr,Vs,Vt,Vu,Vv,Vw,Vx,Vy,Vz,V0,V1,V2,V3,V4,V5,V6,V7,V8,V9,Ua,Ub,Uc,Ud,Ue,Uf,Ug,Uh,Ui,Uj,Uk,Ul,Um,Un,Uo,Up,Uq,Ur,Us,Ut,Uu,Uv,U1,U2,U5,U6,U7,U8,U9,Ka,Kb,Kc,Kd,Ke,Kf,Kg,Kh,Ki,Kj,Kk,Kl,Km,Kn,Ko,Kq,Kr,Ks,Kt,Ku,Kv,Kw,Kx,Ky,Kz,K0,K1,K2,K3,K4,K5,K6,K7,Gg,Gi,Gj,Gk,Gl,Gm,Gn,Gr,Hg,Nf,H3,Hc,Hb]
   tactic =>
    try simp only [G6] at *
    try simp only [nc2] at *
    try simp (maxSteps := 4000000) only [hz,zz1,Gt,Gv,Gx,Gu,szN,Gw,Hi]
    repeat' (first | with_reducible assumption | with_reducible refine And.intro ?_ ?_ | intro _ | omega | (rw [Gy]; omega))
    · rename_i h1 h2 h9
      exact heb (by unfold Pm; rw [show ((t.getD 0 n0).kind == 9) = true by rw [beq_iff_eq]; exact h9]; simp only [Bool.or_true])
    · rename_i h1 h3 h9
      have hle : t.length ≤ 10000 := by omega
      have hnb : Pm t = false := by
        unfold Pm
        simp only [Bool.or_eq_false_iff, Me, beq_eq_false_iff_ne]
        refine ⟨⟨⟨by omega, by omega⟩, ?_⟩, h9⟩
        simpa using h3
      have hr : Bc t = (t.all Tg && ((end3 t 0 == (t.length : Int) && Ab t) && (List.range t.length).all fun i => lab3 t i)) := by
        unfold Bc; rw [hnb]; rfl
      refine Ho [2, 27, 28, 29, 30, 31, 32, 33, 34, 35, 36, 37, 38] (fun k : Nat => [(3, .d (.int .i64 k))]) (fun k : Nat => []) (fun k : Nat => k ≤ t.length ∧ ∀ j, j < k → Tg (t.getD j n0) = true) (fun k : Nat => t.length - k) 0 ?_ ?_ ?_
      · simp
      · ((try simp only [G3, Ha, G5, Hf, upd, Hh, Hn, Na, Nat.reduceDiv, Nat.reduceMod, Nat.reduceMul, Nat.reduceAdd, Nat.reduceEqDiff, List.set_cons_zero, List.set_cons_succ, if_true, if_false, reduceIte]); (first | refine Wk.of_fl ?_ | skip); simp only [Wk, wkK, Nd, wkT, wk1, AV.kept, keptAll, wkO, lk, G4, and_true, true_and, and_self, Nat.reduceEqDiff, Nat.reduceLeDiff, if_true, if_false, reduceIte, reduceCtorEq, Option.isSome, false_implies]; try simp [Wk, wkK, wkT, wk1, AV.kept, keptAll, wkO, lk, G4])
      rintro k ⟨hk, hno⟩
      rcases Hq k t.length with ⟨hlt, hlb⟩ | ⟨hlt, hlb⟩
      · have zz2 := H7 n0 hlt
        (sym =>
         simp [hlb,zz2,Gt,Gv,Gx,Gu,szN,Gw,Cu,Cw,Cv,Cx,Ct,Cs,N1.eq_def,H5.eq_def,M6.eq_def,Pk.eq_def,Mr.eq_def,Za,Zb,Zc,Zd,Ze,Zf,Zg,Zn,Zo,Zp,Zq,Zr,Zs,Zt,Zv,Zx,Zy,Z5,Z8,Z9,Qa,Qb,Qc,Qd,Qe,Qf,Qg,Qk,Ql,Qm,Qn,Qo,Qp,Qr,Q0,Q1,Q4,Q8,Q9,Ja,Jf,Jh,Ji,Jj,Jk,Jl,Jt,Jx,Jy,Jz,J0,J1,J2,J5,J6,J7,J8,J9,Xa,Xb,Xc,Xd,Xe,Xf,Xg,Xj,Xk,Xl,Xm,Xn,Xo,Xp,Xq,Xr,Xs,Xt,Xu,Xv,Xw,Xx,Xy,X1,X2,X3,X4,X5,X6,X7,X8,We,Wf,Wg,Wh,Wi,Wj,Wl,Wm,Wn,Wo,Wp,Ws,Wt,Wu,Wv,Ww,Wx,Wy,Wz,W0,W3,W4,W5,W6,W7,W8,W9,Ya,Yb,Yc,Yd,Ye,Yf,Yg,Yh,Yi,Yj,Yk,Yl,Ym,Yn,Yo,Yr,Ys,Yt,Yu,Yv,Yw,Yx,Yy,Yz,Y1,Y2,Y3,Y4,Y5,Y6,Y7,Y8,Y9,Va,Vb,Vc,Vd,Ve,Vf,Vg,Vh,Vi,Vj,Vk,Vl,Vm,Vn,Vo,Vp,Vq,Vr,Vs,Vt,Vu,Vv,Vw,Vx,Vy,Vz,V0,V1,V2,V3,V4,V5,V6,V7,V8,V9,Ua,Ub,Uc,Ud,Ue,Uf,Ug,Uh,Ui,Uj,Uk,Ul,Um,Un,Uo,Up,Uq,Ur,Us,Ut,Uu,Uv,U1,U2,U5,U6,U7,U8,U9,Ka,Kb,Kc,Kd,Ke,Kf,Kg,Kh,Ki,Kj,Kk,Kl,Km,Kn,Ko,Kq,Kr,Ks,Kt,Ku,Kv,Kw,Kx,Ky,Kz,K0,K1,K2,K3,K4,K5,K6,K7,Gg,Gi,Gj,Gk,Gl,Gm,Gn,Gr,Hg,Nf,H3,Hc,Hb]
         tactic =>
          try simp only [G6] at *
          try simp only [nc2] at *
          try simp (maxSteps := 4000000) only [hlb,zz2,Gt,Gv,Gx,Gu,szN,Gw,Hi]
          repeat' (first | with_reducible assumption | with_reducible refine And.intro ?_ ?_ | intro _ | omega | (rw [Gy]; omega))
          · rename_i hb
            rw [hr, Iz (p := Tg) n0 k hlt hb]
            rfl
          · rename_i hb
            refine ⟨k + 1, by ((try simp only [G3, Ha, G5, Hf, upd, Hh, Hn, Na, Nat.reduceDiv, Nat.reduceMod, Nat.reduceMul, Nat.reduceAdd, Nat.reduceEqDiff, List.set_cons_zero, List.set_cons_succ, if_true, if_false, reduceIte]); (first | refine Wk.of_fl ?_ | skip); simp only [Wk, wkK, Nd, wkT, wk1, AV.kept, keptAll, wkO, lk, G4, and_true, true_and, and_self, Nat.reduceEqDiff, Nat.reduceLeDiff, if_true, if_false, reduceIte, reduceCtorEq, Option.isSome, false_implies]; try simp [Wk, wkK, wkT, wk1, AV.kept, keptAll, wkO, lk, G4]), by omega, fun j hj => ?_, by omega⟩
            by_cases hjk : j = k
            · subst hjk; exact hb
            · exact hno j (by omega))
      · have hall : t.all Tg = true := Eb (p := Tg) n0 fun j hj => hno j (by omega)
        have hT : Tame t := ⟨by omega, fun n hn => numb3_tame (List.all_eq_true.1 hall n hn)⟩
        rw [hall, Bool.true_and] at hr
        have hT2 : Tame t ∧ inR .i64 0 := ⟨hT, by rw [Gy]; omega⟩
        (sym =>
         simp [hlb,hT,Gt,Gv,Gx,Gu,szN,Gw,Cu,Cw,Cv,Cx,Ct,Cs,N1.eq_def,H5.eq_def,M6.eq_def,Pk.eq_def,Mr.eq_def,Za,Zb,Zc,Zd,Ze,Zf,Zg,Zn,Zo,Zp,Zq,Zr,Zs,Zt,Zv,Zx,Zy,Z5,Z8,Z9,Qa,Qb,Qc,Qd,Qe,Qf,Qg,Qk,Ql,Qm,Qn,Qo,Qp,Qr,Q0,Q1,Q4,Q8,Q9,Ja,Jf,Jh,Ji,Jj,Jk,Jl,Jt,Jx,Jy,Jz,J0,J1,J2,J5,J6,J7,J8,J9,Xa,Xb,Xc,Xd,Xe,Xf,Xg,Xj,Xk,Xl,Xm,Xn,Xo,Xp,Xq,Xr,Xs,Xt,Xu,Xv,Xw,Xx,Xy,X1,X2,X3,X4,X5,X6,X7,X8,We,Wf,Wg,Wh,Wi,Wj,Wl,Wm,Wn,Wo,Wp,Ws,Wt,Wu,Wv,Ww,Wx,Wy,Wz,W0,W3,W4,W5,W6,W7,W8,W9,Ya,Yb,Yc,Yd,Ye,Yf,Yg,Yh,Yi,Yj,Yk,Yl,Ym,Yn,Yo,Yr,Ys,Yt,Yu,Yv,Yw,Yx,Yy,Yz,Y1,Y2,Y3,Y4,Y5,Y6,Y7,Y8,Y9,Va,Vb,Vc,Vd,Ve,Vf,Vg,Vh,Vi,Vj,Vk,Vl,Vm,Vn,Vo,Vp,Vq,Vr,Vs,Vt,Vu,Vv,Vw,Vx,Vy,Vz,V0,V1,V2,V3,V4,V5,V6,V7,V8,V9,Ua,Ub,Uc,Ud,Ue,Uf,Ug,Uh,Ui,Uj,Uk,Ul,Um,Un,Uo,Up,Uq,Ur,Us,Ut,Uu,Uv,U1,U2,U5,U6,U7,U8,U9,Ka,Kb,Kc,Kd,Ke,Kf,Kg,Kh,Ki,Kj,Kk,Kl,Km,Kn,Ko,Kq,Kr,Ks,Kt,Ku,Kv,Kw,Kx,Ky,Kz,K0,K1,K2,K3,K4,K5,K6,K7,Gg,Gi,Gj,Gk,Gl,Gm,Gn,Gr,Hg,Nf,H3,Hc,Hb]
         tactic =>
          try simp only [G6] at *
          try simp only [nc2] at *
          try simp (maxSteps := 4000000) only [hlb,hT,Gt,Gv,Gx,Gu,szN,Gw,Hi]
          repeat' (first | with_reducible assumption | with_reducible refine And.intro ?_ ?_ | intro _ | omega | (rw [Gy]; omega))
          · rename_i he hs
            rw [hr, hs]
            simp
          · rename_i he hs
            have hr2 : Bc t = (List.range t.length).all fun i => lab3 t i := by
              rw [hr, hs, show (end3 t 0 == (t.length : Int)) = true by simpa using he]
              rfl
            refine Ho [2, 49, 50, 51, 52, 53, 54, 55, 56, 57, 58] (fun k : Nat => [(4, .d (.int .i64 k))]) (fun k : Nat => []) (fun k : Nat => k ≤ t.length ∧ ∀ j, j < k → lab3 t j = true) (fun k : Nat => t.length - k) 0 ?_ ?_ ?_
            · simp
            · ((try simp only [G3, Ha, G5, Hf, upd, Hh, Hn, Na, Nat.reduceDiv, Nat.reduceMod, Nat.reduceMul, Nat.reduceAdd, Nat.reduceEqDiff, List.set_cons_zero, List.set_cons_succ, if_true, if_false, reduceIte]); (first | refine Wk.of_fl ?_ | skip); simp only [Wk, wkK, Nd, wkT, wk1, AV.kept, keptAll, wkO, lk, G4, and_true, true_and, and_self, Nat.reduceEqDiff, Nat.reduceLeDiff, if_true, if_false, reduceIte, reduceCtorEq, Option.isSome, false_implies]; try simp [Wk, wkK, wkT, wk1, AV.kept, keptAll, wkO, lk, G4])
            rintro k ⟨hk2, hno2⟩
            rcases Hq k t.length with ⟨hlt2, hlb2⟩ | ⟨hlt2, hlb2⟩
            · (sym =>
               simp [hlb2,Gt,Gv,Gx,Gu,szN,Gw,Cu,Cw,Cv,Cx,Ct,Cs,N1.eq_def,H5.eq_def,M6.eq_def,Pk.eq_def,Mr.eq_def,Za,Zb,Zc,Zd,Ze,Zf,Zg,Zn,Zo,Zp,Zq,Zr,Zs,Zt,Zv,Zx,Zy,Z5,Z8,Z9,Qa,Qb,Qc,Qd,Qe,Qf,Qg,Qk,Ql,Qm,Qn,Qo,Qp,Qr,Q0,Q1,Q4,Q8,Q9,Ja,Jf,Jh,Ji,Jj,Jk,Jl,Jt,Jx,Jy,Jz,J0,J1,J2,J5,J6,J7,J8,J9,Xa,Xb,Xc,Xd,Xe,Xf,Xg,Xj,Xk,Xl,Xm,Xn,Xo,Xp,Xq,Xr,Xs,Xt,Xu,Xv,Xw,Xx,Xy,X1,X2,X3,X4,X5,X6,X7,X8,We,Wf,Wg,Wh,Wi,Wj,Wl,Wm,Wn,Wo,Wp,Ws,Wt,Wu,Wv,Ww,Wx,Wy,Wz,W0,W3,W4,W5,W6,W7,W8,W9,Ya,Yb,Yc,Yd,Ye,Yf,Yg,Yh,Yi,Yj,Yk,Yl,Ym,Yn,Yo,Yr,Ys,Yt,Yu,Yv,Yw,Yx,Yy,Yz,Y1,Y2,Y3,Y4,Y5,Y6,Y7,Y8,Y9,Va,Vb,Vc,Vd,Ve,Vf,Vg,Vh,Vi,Vj,Vk,Vl,Vm,Vn,Vo,Vp,Vq,Vr,Vs,Vt,Vu,Vv,Vw,Vx,Vy,Vz,V0,V1,V2,V3,V4,V5,V6,V7,V8,V9,Ua,Ub,Uc,Ud,Ue,Uf,Ug,Uh,Ui,Uj,Uk,Ul,Um,Un,Uo,Up,Uq,Ur,Us,Ut,Uu,Uv,U1,U2,U5,U6,U7,U8,U9,Ka,Kb,Kc,Kd,Ke,Kf,Kg,Kh,Ki,Kj,Kk,Kl,Km,Kn,Ko,Kq,Kr,Ks,Kt,Ku,Kv,Kw,Kx,Ky,Kz,K0,K1,K2,K3,K4,K5,K6,K7,Gg,Gi,Gj,Gk,Gl,Gm,Gn,Gr,Hg,Nf,H3,Hc,Hb]
               tactic =>
                try simp only [G6] at *
                try simp only [nc2] at *
                try simp (maxSteps := 4000000) only [hlb2,Gt,Gv,Gx,Gu,szN,Gw,Hi]
                repeat' (first | with_reducible assumption | with_reducible refine And.intro ?_ ?_ | intro _ | omega | (rw [Gy]; omega))
                · rename_i hb
                  rw [hr2, C3 k hlt2 hb]
                · rename_i hb
                  refine ⟨k + 1, by ((try simp only [G3, Ha, G5, Hf, upd, Hh, Hn, Na, Nat.reduceDiv, Nat.reduceMod, Nat.reduceMul, Nat.reduceAdd, Nat.reduceEqDiff, List.set_cons_zero, List.set_cons_succ, if_true, if_false, reduceIte]); (first | refine Wk.of_fl ?_ | skip); simp only [Wk, wkK, Nd, wkT, wk1, AV.kept, keptAll, wkO, lk, G4, and_true, true_and, and_self, Nat.reduceEqDiff, Nat.reduceLeDiff, if_true, if_false, reduceIte, reduceCtorEq, Option.isSome, false_implies]; try simp [Wk, wkK, wkT, wk1, AV.kept, keptAll, wkO, lk, G4]), by omega, fun j hj => ?_, by omega⟩
                  by_cases hjk : j = k
                  · subst hjk; exact hb
                  · exact hno2 j (by omega))
            · (sym =>
               simp [hlb2,Gt,Gv,Gx,Gu,szN,Gw,Cu,Cw,Cv,Cx,Ct,Cs,N1.eq_def,H5.eq_def,M6.eq_def,Pk.eq_def,Mr.eq_def,Za,Zb,Zc,Zd,Ze,Zf,Zg,Zn,Zo,Zp,Zq,Zr,Zs,Zt,Zv,Zx,Zy,Z5,Z8,Z9,Qa,Qb,Qc,Qd,Qe,Qf,Qg,Qk,Ql,Qm,Qn,Qo,Qp,Qr,Q0,Q1,Q4,Q8,Q9,Ja,Jf,Jh,Ji,Jj,Jk,Jl,Jt,Jx,Jy,Jz,J0,J1,J2,J5,J6,J7,J8,J9,Xa,Xb,Xc,Xd,Xe,Xf,Xg,Xj,Xk,Xl,Xm,Xn,Xo,Xp,Xq,Xr,Xs,Xt,Xu,Xv,Xw,Xx,Xy,X1,X2,X3,X4,X5,X6,X7,X8,We,Wf,Wg,Wh,Wi,Wj,Wl,Wm,Wn,Wo,Wp,Ws,Wt,Wu,Wv,Ww,Wx,Wy,Wz,W0,W3,W4,W5,W6,W7,W8,W9,Ya,Yb,Yc,Yd,Ye,Yf,Yg,Yh,Yi,Yj,Yk,Yl,Ym,Yn,Yo,Yr,Ys,Yt,Yu,Yv,Yw,Yx,Yy,Yz,Y1,Y2,Y3,Y4,Y5,Y6,Y7,Y8,Y9,Va,Vb,Vc,Vd,Ve,Vf,Vg,Vh,Vi,Vj,Vk,Vl,Vm,Vn,Vo,Vp,Vq,Vr,Vs,Vt,Vu,Vv,Vw,Vx,Vy,Vz,V0,V1,V2,V3,V4,V5,V6,V7,V8,V9,Ua,Ub,Uc,Ud,Ue,Uf,Ug,Uh,Ui,Uj,Uk,Ul,Um,Un,Uo,Up,Uq,Ur,Us,Ut,Uu,Uv,U1,U2,U5,U6,U7,U8,U9,Ka,Kb,Kc,Kd,Ke,Kf,Kg,Kh,Ki,Kj,Kk,Kl,Km,Kn,Ko,Kq,Kr,Ks,Kt,Ku,Kv,Kw,Kx,Ky,Kz,K0,K1,K2,K3,K4,K5,K6,K7,Gg,Gi,Gj,Gk,Gl,Gm,Gn,Gr,Hg,Nf,H3,Hc,Hb]
               tactic =>
                try simp only [G6] at *
                try simp only [nc2] at *
                try simp (maxSteps := 4000000) only [hlb2,Gt,Gv,Gx,Gu,szN,Gw,Hi]
                rw [hr2, Cg fun j hj => hno2 j (by omega)])
          · rename_i he
            rw [hr, show (end3 t 0 == (t.length : Int)) = false by simpa using he]
            rfl)
    · rename_i h1 h3
      exact heb (by unfold Pm; rw [show ((t.getD 0 n0).name == []) = false by rw [beq_eq_false_iff_ne]; exact h3]; simp only [Bool.not_false, Bool.or_true, Bool.true_or])
    · rename_i h1
      exact heb (by unfold Pm; rw [show ltB 10000 (t.length : Int) = true by rw [Ba]; exact h1]; simp only [Bool.or_true, Bool.true_or]))
end Go.Am.Ty
set_option linter.unusedSimpArgs false
set_option linter.unusedVariables false
set_option maxHeartbeats 1000000
namespace Go.Am.Ty
open Go.Proofs Go.Rose Go.Rose.Rose
open Enc (enc dec)
def Ss (t : List Node) (most : Int) : Bool := !ltB most t.length && (t.all (fun n => !ltB 100 n.name.length) && (Bc t && Dg t))
def H8 : Con := C0 (fun (t : Sl Node) (_ : Int) => t.l.length ≤ 9223372036854775807 ∧ I0 t.l) (fun t m => Ss t.l m)
noncomputable def Dw : Ctx := ⟨tab, lkC [(10, H5), (26, M5)], 60, lkB [], [], false⟩
theorem Ry : Dw.τ = tab := rfl
theorem R0 : Dw.Γ = lkC [(10, H5), (26, M5)] := rfl
theorem Rz : Dw.dp = 60 := rfl
theorem R1 : Dw.Δ = lkB [] := rfl
theorem Rx : Dw.cuts = [] := rfl
theorem Rw : Dw.wr = false := rfl
set_option maxRecDepth 100000 in
theorem good_Plain7 : M7 Try.prog (14, H8) := by
  refine ⟨He Try.func14 (by kernel_rfl) rfl, ?_⟩
  have K : Nh Try.prog Dw := Hl Ny Ht (by
    intro p hp
    simp only [List.mem_cons, List.not_mem_nil, or_false] at hp
    rcases hp with rfl | rfl
    · exact Ib
    · exact good_Plain3) (by simp)
  obtain ⟨c, hc⟩ : ∃ c, Try.f14.body = some c := ⟨_, rfl⟩
  refine Hm K Try.func14 hc [.tmp 4] rfl 29 rfl (fun cvs hpre => ?_)
  change H8.pre cvs at hpre
  unfold H8 at hpre
  obtain ⟨⟨t⟩, m, rfl, ht, hN⟩ := Mp hpre
  simp only at ht hN
  simp only [Try.f14, Option.some.injEq] at hc
  subst hc
  rcases ltB_casesI m t.length with ⟨hm, hmb⟩ | ⟨hm, hmb⟩
  · (sym =>
     simp [hmb,Gt,Gv,Gx,Gu,szN,Gw,Ry,R0,Rz,R1,Rx,Rw,M5.eq_def,H8.eq_def,H5.eq_def,Za,Zb,Zc,Zd,Ze,Zf,Zg,Zn,Zo,Zp,Zq,Zr,Zs,Zt,Zv,Zx,Zy,Z5,Z8,Z9,Qa,Qb,Qc,Qd,Qe,Qf,Qg,Qk,Ql,Qm,Qn,Qo,Qp,Qr,Q0,Q1,Q4,Q8,Q9,Ja,Jf,Jh,Ji,Jj,Jk,Jl,Jt,Jy,Jz,J0,J1,J2,J5,J6,Xj,Xk,Xl,Xm,Xn,Xo,Xp,Xq,Xr,Xs,Xt,Xu,Xv,Xy,X1,X2,X3,X4,X5,X6,X7,X8,We,Wf,Wg,Wh,Wi,Wj,Wl,Wm,Wn,Wo,Wp,Ws,Wt,Wu,Wv,Ww,Wx,Wy,Wz,W0,W3,W4,W5,W6,W7,W8,W9,Ya,Yb,Yc,Yd,Ye,Yf,Yg,Yh,Yi,Yj,Yk,Yl,Ym,Yn,Yo,Yu,Yv,Yw,Yx,Yy,Yz,Y1,Y2,Y3,Y4,Y5,Y6,Y7,Y8,Y9,Va,Vb,Vc,Vd,Ve,Vf,Vg,Vh,Vi,Vj,Vk,Vl,Vm,Vn,Vo,Vp,Vq,Vr,Vs,Vt,Vu,Vv,Vw,Vx,Vy,Vz,V0,V1,V2,V3,V4,V5,V6,V7,V8,V9,Ua,Ub,Uc,Ud,Ue,Uf,Ug,Uh,Ui,Uj,Uk,Ul,Um,Un,Uo,Up,Uq,Ur,Us,Ut,Uu,Uv,U1,U2,U5,U6,U7,U8,U9,Ka,Kb,Kc,Kd,Ke,Kf,Kg,Kh,Ki,Kj,Kk,Kl,Km,Kn,Ko,Kq,Kr,Ks,Kt,Ku,Kv,Kw,Kx,Ky,Kz,K0,K1,K2,K3,K4,K5,K6,K7,Gg,Gi,Gj,Gk,Gl,Gm,Gn,Gr,Hg,H3,Hc,Hb]
     tactic =>
      try simp only [G6] at *
      try simp only [nc2] at *
      try simp (maxSteps := 4000000) only [hmb,Gt,Gv,Gx,Gu,szN,Gw,Hi]
      unfold Ss
      rw [hmb]
      rfl)
  · have hp : Ss t m = (t.all (fun n => !ltB 100 n.name.length) && (Bc t && Dg t)) := by
      unfold Ss; rw [hmb]; rfl
    (sym =>
     simp [hmb,Gt,Gv,Gx,Gu,szN,Gw,Ry,R0,Rz,R1,Rx,Rw,M5.eq_def,H8.eq_def,H5.eq_def,Za,Zb,Zc,Zd,Ze,Zf,Zg,Zn,Zo,Zp,Zq,Zr,Zs,Zt,Zv,Zx,Zy,Z5,Z8,Z9,Qa,Qb,Qc,Qd,Qe,Qf,Qg,Qk,Ql,Qm,Qn,Qo,Qp,Qr,Q0,Q1,Q4,Q8,Q9,Ja,Jf,Jh,Ji,Jj,Jk,Jl,Jt,Jy,Jz,J0,J1,J2,J5,J6,Xj,Xk,Xl,Xm,Xn,Xo,Xp,Xq,Xr,Xs,Xt,Xu,Xv,Xy,X1,X2,X3,X4,X5,X6,X7,X8,We,Wf,Wg,Wh,Wi,Wj,Wl,Wm,Wn,Wo,Wp,Ws,Wt,Wu,Wv,Ww,Wx,Wy,Wz,W0,W3,W4,W5,W6,W7,W8,W9,Ya,Yb,Yc,Yd,Ye,Yf,Yg,Yh,Yi,Yj,Yk,Yl,Ym,Yn,Yo,Yu,Yv,Yw,Yx,Yy,Yz,Y1,Y2,Y3,Y4,Y5,Y6,Y7,Y8,Y9,Va,Vb,Vc,Vd,Ve,Vf,Vg,Vh,Vi,Vj,Vk,Vl,Vm,Vn,Vo,Vp,Vq,Vr,Vs,Vt,Vu,Vv,Vw,Vx,Vy,Vz,V0,V1,V2,V3,V4,V5,V6,V7,V8,V9,Ua,Ub,Uc,Ud,Ue,Uf,Ug,Uh,Ui,Uj,Uk,Ul,Um,Un,Uo,Up,Uq,Ur,Us,Ut,Uu,Uv,U1,U2,U5,U6,U7,U8,U9,Ka,Kb,Kc,Kd,Ke,Kf,Kg,Kh,Ki,Kj,Kk,Kl,Km,Kn,Ko,Kq,Kr,Ks,Kt,Ku,Kv,Kw,Kx,Ky,Kz,K0,K1,K2,K3,K4,K5,K6,K7,Gg,Gi,Gj,Gk,Gl,Gm,Gn,Gr,Hg,H3,Hc,Hb]
     tactic =>
      try simp only [G6] at *
      try simp only [nc2] at *
      try simp (maxSteps := 4000000) only [hmb,Gt,Gv,Gx,Gu,szN,Gw,Hi]
      refine Ho [4, 10, 11, 12, 13, 14, 15, 16, 17, 18, 19, 20, 21, 22] (fun k : Nat => [(5, .d (.int .i64 k))]) (fun k : Nat => []) (fun k : Nat => k ≤ t.length ∧ ∀ j, j < k → (!ltB 100 (t.getD j n0).name.length) = true) (fun k : Nat => t.length - k) 0 ?_ ?_ ?_
      · simp
      · ((try simp only [G3, Ha, G5, Hf, upd, Hh, Hn, Na, Nat.reduceDiv, Nat.reduceMod, Nat.reduceMul, Nat.reduceAdd, Nat.reduceEqDiff, List.set_cons_zero, List.set_cons_succ, if_true, if_false, reduceIte]); (first | refine Wk.of_fl ?_ | skip); simp only [Wk, wkK, Nd, wkT, wk1, AV.kept, keptAll, wkO, lk, G4, and_true, true_and, and_self, Nat.reduceEqDiff, Nat.reduceLeDiff, if_true, if_false, reduceIte, reduceCtorEq, Option.isSome, false_implies]; try simp [Wk, wkK, wkT, wk1, AV.kept, keptAll, wkO, lk, G4])
      rintro k ⟨hk, hno⟩
      rcases Hq k t.length with ⟨hlt, hlb⟩ | ⟨hlt, hlb⟩
      · have zz1 := H7 n0 hlt
        (sym =>
         simp [hlb,zz1,Gt,Gv,Gx,Gu,szN,Gw,Ry,R0,Rz,R1,Rx,Rw,M5.eq_def,H8.eq_def,H5.eq_def,Za,Zb,Zc,Zd,Ze,Zf,Zg,Zn,Zo,Zp,Zq,Zr,Zs,Zt,Zv,Zx,Zy,Z5,Z8,Z9,Qa,Qb,Qc,Qd,Qe,Qf,Qg,Qk,Ql,Qm,Qn,Qo,Qp,Qr,Q0,Q1,Q4,Q8,Q9,Ja,Jf,Jh,Ji,Jj,Jk,Jl,Jt,Jy,Jz,J0,J1,J2,J5,J6,Xj,Xk,Xl,Xm,Xn,Xo,Xp,Xq,Xr,Xs,Xt,Xu,Xv,Xy,X1,X2,X3,X4,X5,X6,X7,X8,We,Wf,Wg,Wh,Wi,Wj,Wl,Wm,Wn,Wo,Wp,Ws,Wt,Wu,Wv,Ww,Wx,Wy,Wz,W0,W3,W4,W5,W6,W7,W8,W9,Ya,Yb,Yc,Yd,Ye,Yf,Yg,Yh,Yi,Yj,Yk,Yl,Ym,Yn,Yo,Yu,Yv,Yw,Yx,Yy,Yz,Y1,Y2,Y3,Y4,Y5,Y6,Y7,Y8,Y9,Va,Vb,Vc,Vd,Ve,Vf,Vg,Vh,Vi,Vj,Vk,Vl,Vm,Vn,Vo,Vp,Vq,Vr,Vs,Vt,Vu,Vv,Vw,Vx,Vy,Vz,V0,V1,V2,V3,V4,V5,V6,V7,V8,V9,Ua,Ub,Uc,Ud,Ue,Uf,Ug,Uh,Ui,Uj,Uk,Ul,Um,Un,Uo,Up,Uq,Ur,Us,Ut,Uu,Uv,U1,U2,U5,U6,U7,U8,U9,Ka,Kb,Kc,Kd,Ke,Kf,Kg,Kh,Ki,Kj,Kk,Kl,Km,Kn,Ko,Kq,Kr,Ks,Kt,Ku,Kv,Kw,Kx,Ky,Kz,K0,K1,K2,K3,K4,K5,K6,K7,Gg,Gi,Gj,Gk,Gl,Gm,Gn,Gr,Hg,H3,Hc,Hb]
         tactic =>
          try simp only [G6] at *
          try simp only [nc2] at *
          try simp (maxSteps := 4000000) only [hlb,zz1,Gt,Gv,Gx,Gu,szN,Gw,Hi]
          repeat' (first | with_reducible assumption | with_reducible refine And.intro ?_ ?_ | intro _ | omega | (rw [Gy]; omega))
          · rename_i hb
            rw [hp, Iz (p := fun n : Node => !ltB 100 n.name.length) n0 k hlt (by rw [show ltB 100 ((t.getD k n0).name.length : Int) = true by rw [Ba]; exact hb]; rfl)]
            rfl
          · rename_i hb
            refine ⟨k + 1, by ((try simp only [G3, Ha, G5, Hf, upd, Hh, Hn, Na, Nat.reduceDiv, Nat.reduceMod, Nat.reduceMul, Nat.reduceAdd, Nat.reduceEqDiff, List.set_cons_zero, List.set_cons_succ, if_true, if_false, reduceIte]); (first | refine Wk.of_fl ?_ | skip); simp only [Wk, wkK, Nd, wkT, wk1, AV.kept, keptAll, wkO, lk, G4, and_true, true_and, and_self, Nat.reduceEqDiff, Nat.reduceLeDiff, if_true, if_false, reduceIte, reduceCtorEq, Option.isSome, false_implies]; try simp [Wk, wkK, wkT, wk1, AV.kept, keptAll, wkO, lk, G4]), by omega, fun j hj => ?_, by omega⟩
            by_cases hjk : j = k
            · subst hjk; exact hb
            · have := hno j (by omega)
              rw [Bool.not_eq_true', Me] at this
              exact this)
      · have hall : t.all (fun n => !ltB 100 n.name.length) = true := Eb (p := fun n : Node => !ltB 100 n.name.length) n0 fun j hj => hno j (by omega)
        rw [hall, Bool.true_and] at hp
        (sym =>
         simp [hlb,hp,Gt,Gv,Gx,Gu,szN,Gw,Ry,R0,Rz,R1,Rx,Rw,M5.eq_def,H8.eq_def,H5.eq_def,Za,Zb,Zc,Zd,Ze,Zf,Zg,Zn,Zo,Zp,Zq,Zr,Zs,Zt,Zv,Zx,Zy,Z5,Z8,Z9,Qa,Qb,Qc,Qd,Qe,Qf,Qg,Qk,Ql,Qm,Qn,Qo,Qp,Qr,Q0,Q1,Q4,Q8,Q9,Ja,Jf,Jh,Ji,Jj,Jk,Jl,Jt,Jy,Jz,J0,J1,J2,J5,J6,Xj,Xk,Xl,Xm,Xn,Xo,Xp,Xq,Xr,Xs,Xt,Xu,Xv,Xy,X1,X2,X3,X4,X5,X6,X7,X8,We,Wf,Wg,Wh,Wi,Wj,Wl,Wm,Wn,Wo,Wp,Ws,Wt,Wu,Wv,Ww,Wx,Wy,Wz,W0,W3,W4,W5,W6,W7,W8,W9,Ya,Yb,Yc,Yd,Ye,Yf,Yg,Yh,Yi,Yj,Yk,Yl,Ym,Yn,Yo,Yu,Yv,Yw,Yx,Yy,Yz,Y1,Y2,Y3,Y4,Y5,Y6,Y7,Y8,Y9,Va,Vb,Vc,Vd,Ve,Vf,Vg,Vh,Vi,Vj,Vk,Vl,Vm,Vn,Vo,Vp,Vq,Vr,Vs,Vt,Vu,Vv,Vw,Vx,Vy,Vz,V0,V1,V2,V3,V4,V5,V6,V7,V8,V9,Ua,Ub,Uc,Ud,Ue,Uf,Ug,Uh,Ui,Uj,Uk,Ul,Um,Un,Uo,Up,Uq,Ur,Us,Ut,Uu,Uv,U1,U2,U5,U6,U7,U8,U9,Ka,Kb,Kc,Kd,Ke,Kf,Kg,Kh,Ki,Kj,Kk,Kl,Km,Kn,Ko,Kq,Kr,Ks,Kt,Ku,Kv,Kw,Kx,Ky,Kz,K0,K1,K2,K3,K4,K5,K6,K7,Gg,Gi,Gj,Gk,Gl,Gm,Gn,Gr,Hg,H3,Hc,Hb]
         tactic =>
          try simp only [G6] at *
          try simp only [nc2] at *
          try simp (maxSteps := 4000000) only [hlb,hp,Gt,Gv,Gx,Gu,szN,Gw,Hi]
          repeat' (first | with_reducible assumption | with_reducible refine And.intro ?_ ?_ | intro _ | omega | (rw [Gy]; omega))
          all_goals rename_i hr
          all_goals rw [hr]
          all_goals rfl))
instance inhSl {α : Type} : Inhabited (Sl α) := ⟨⟨[]⟩⟩
instance inhNode : Inhabited Node := ⟨n0⟩
def Su (n : Node) : Bool := n.kind == 6 || n.kind == 7
def Ni : Con := Sn (fun (_ : Node) => True) (fun n => Su n)
noncomputable def Dl : Ctx := ⟨tab, lkC [], 60, lkB [], [], false⟩
theorem ctx_isRowT_t : Dl.τ = tab := rfl
theorem ctx_isRowT_c : Dl.Γ = lkC [] := rfl
theorem ctx_isRowT_d : Dl.dp = 60 := rfl
theorem ctx_isRowT_b : Dl.Δ = lkB [] := rfl
theorem ctx_isRowT_u : Dl.cuts = [] := rfl
theorem ctx_isRowT_w : Dl.wr = false := rfl
set_option maxRecDepth 100000 in
theorem good_isRowT : M7 Try.prog (43, Ni) := by
  refine ⟨He Try.func43 (by kernel_rfl) rfl, ?_⟩
  have K : Nh Try.prog Dl := Hl Ny Ht (by simp) (by simp)
  obtain ⟨c, hc⟩ : ∃ c, Try.f43.body = some c := ⟨_, rfl⟩
  refine Hm K Try.func43 hc [.tmp 2] rfl 11 rfl (fun cvs hpre => ?_)
  change Ni.pre cvs at hpre
  unfold Ni at hpre
  obtain ⟨n, rfl, -⟩ := Nw hpre
  simp only [Try.f43, Option.some.injEq] at hc
  subst hc
  (sym =>
   simp [Gt,Gv,Gx,Gu,szN,Gw,ctx_isRowT_t,ctx_isRowT_c,ctx_isRowT_d,ctx_isRowT_b,ctx_isRowT_u,ctx_isRowT_w,Ni.eq_def,Za,Zb,Zc,Zd,Ze,Zf,Zg,Zn,Zo,Zp,Zq,Zr,Zs,Zt,Zu,Zv,Zx,Qa,Qb,Qc,Qg,Qk,Ql,Qm,Qn,Qo,Qp,Qr,Q0,Q1,Q4,Q8,Ja,Jf,Jh,Ji,Jj,Jk,Jl,Jt,Jy,Jz,J5,J6,Xj,Xk,Xl,Xm,Xn,Xo,Xp,Xq,Xr,Xs,Xt,Xu,Xv,Xy,X1,X2,X3,X4,X5,X6,X7,X8,We,Wf,Wg,Wh,Wi,Wj,Wl,Wn,Wo,Wp,Ws,Wt,Wu,Wv,Ww,Wx,Wy,Wz,W0,W3,W4,W5,W6,W7,W8,W9,Ya,Yb,Yc,Yd,Ye,Yf,Yg,Yh,Yi,Yj,Yk,Yl,Ym,Yn,Yo,Yv,Yw,Yx,Yy,Yz,Y1,Y2,Y3,Y4,Y5,Y6,Y7,Y8,Y9,Va,Vb,Vc,Vd,Ve,Vf,Vg,Vh,Vi,Vj,Vk,Vl,Vm,Vn,Vo,Vp,Vq,Vr,Vs,Vt,Vu,Vv,Vw,Vx,Vy,Vz,V0,V1,V2,V3,V4,V5,V6,V7,V8,V9,Ua,Ub,Uc,Ud,Ue,Uf,Ug,Uh,Ui,Uj,Uk,Ul,Um,Un,Uo,Up,Uq,Ur,Us,Ut,Uu,Uv,U1,U2,U5,U6,U7,U8,U9,Ka,Kb,Kc,Kd,Ke,Kf,Kg,Kh,Ki,Kj,Kk,Kl,Km,Kn,Ko,Kq,Kr,Ks,Kt,Ku,Kv,Kw,Kx,Ky,Kz,K0,K1,K2,K3,K4,K5,K6,K7,Gg,Gi,Gj,Gk,Gl,Gm,Gn,Gr,Hg,Hb]
   tactic =>
    try simp only [G6] at *
    try simp only [nc2] at *
    try simp (maxSteps := 4000000) only [Gt,Gv,Gx,Gu,szN,Gw,Hi]
    unfold Su
    repeat' (first | with_reducible assumption | with_reducible refine And.intro ?_ ?_ | intro _ | omega | (rw [Gy]; omega))
    all_goals simp_all)
def ar (n : Node) : Nat := if n.kind = 5 then 2 else if n.kind = 6 ∨ n.kind = 7 then n.n.toNat else 0
def Mg : Con := Sn (fun (_ : Node) => True) (fun n => (ar n : Int))
noncomputable def Fa : Ctx := ⟨tab, lkC [(43, Ni)], 60, lkB [], [], false⟩
theorem ctx_manyT_t : Fa.τ = tab := rfl
theorem ctx_manyT_c : Fa.Γ = lkC [(43, Ni)] := rfl
theorem ctx_manyT_d : Fa.dp = 60 := rfl
theorem ctx_manyT_b : Fa.Δ = lkB [] := rfl
theorem ctx_manyT_u : Fa.cuts = [] := rfl
theorem ctx_manyT_w : Fa.wr = false := rfl
set_option maxRecDepth 100000 in
theorem good_manyT : M7 Try.prog (42, Mg) := by
  refine ⟨He Try.func42 (by kernel_rfl) rfl, ?_⟩
  have K : Nh Try.prog Fa := Hl Ny Ht (by
    intro p hp
    simp only [List.mem_cons, List.not_mem_nil, or_false] at hp
    rcases hp with rfl
    · exact good_isRowT) (by simp)
  obtain ⟨c, hc⟩ : ∃ c, Try.f42.body = some c := ⟨_, rfl⟩
  refine Hm K Try.func42 hc [.tmp 2] rfl 13 rfl (fun cvs hpre => ?_)
  change Mg.pre cvs at hpre
  unfold Mg at hpre
  obtain ⟨n, rfl, -⟩ := Nw hpre
  simp only [Try.f42, Option.some.injEq] at hc
  subst hc
  (sym =>
   simp [Gt,Gv,Gx,Gu,szN,Gw,ctx_manyT_t,ctx_manyT_c,ctx_manyT_d,ctx_manyT_b,ctx_manyT_u,ctx_manyT_w,Ni.eq_def,Mg.eq_def,Za,Zb,Zc,Ze,Zf,Zg,Zn,Zo,Zp,Zq,Zr,Zs,Zu,Zv,Zx,Z6,Z8,Z9,Qa,Qb,Qc,Qd,Qe,Qf,Qg,Qk,Ql,Qm,Qn,Qo,Qp,Qr,Q0,Q1,Q4,Q8,Q9,Ja,Jf,Jh,Ji,Jj,Jk,Jl,Jt,Jy,Jz,J5,J6,Xj,Xk,Xl,Xm,Xn,Xo,Xp,Xq,Xr,Xs,Xt,Xu,Xv,Xy,X1,X2,X3,X4,X5,X6,X7,X8,We,Wf,Wg,Wh,Wi,Wj,Wl,Wn,Wo,Wp,Ws,Wt,Wu,Wv,Ww,Wx,Wy,Wz,W0,W3,W4,W5,W6,W7,W8,W9,Ya,Yb,Yc,Yd,Ye,Yf,Yg,Yh,Yi,Yj,Yk,Yl,Ym,Yn,Yo,Yv,Yw,Yx,Yy,Yz,Y1,Y2,Y3,Y4,Y5,Y6,Y7,Y8,Y9,Va,Vb,Vc,Vd,Ve,Vf,Vg,Vh,Vi,Vj,Vk,Vl,Vm,Vn,Vo,Vp,Vq,Vr,Vs,Vt,Vu,Vv,Vw,Vx,Vy,Vz,V0,V1,V2,V3,V4,V5,V6,V7,V8,V9,Ua,Ub,Uc,Ud,Ue,Uf,Ug,Uh,Ui,Uj,Uk,Ul,Um,Un,Uo,Up,Uq,Ur,Us,Ut,Uu,Uv,U1,U2,U5,U6,U7,U8,U9,Ka,Kb,Kc,Kd,Ke,Kf,Kg,Kh,Ki,Kj,Kk,Kl,Km,Kn,Ko,Kq,Kr,Ks,Kt,Ku,Kv,Kw,Kx,Ky,Kz,K0,K1,K2,K3,K4,K5,K6,K7,Gg,Gi,Gj,Gk,Gl,Gm,Gn,Gr,Hg,Hb]
   tactic =>
    try simp only [G6] at *
    try simp only [nc2] at *
    try simp (maxSteps := 4000000) only [Gt,Gv,Gx,Gu,szN,Gw,Hi]
    unfold ar
    repeat' (first | with_reducible assumption | with_reducible refine And.intro ?_ ?_ | intro _ | omega | (rw [Gy]; omega))
    · rename_i h5
      rw [if_pos h5]; rfl
    · rename_i h5 h6
      rw [if_neg h5, if_pos (by simpa [Su] using h6)]
      unfold maxI
      split <;> omega
    · rename_i h5 h6
      rw [if_neg h5, if_neg (by simpa [Su] using h6)]; rfl)
theorem ar_many3 {n : Node} (h : 0 ≤ Py n) : (ar n : Int) = Py n := by
  unfold ar Py at *
  split
  · rfl
  · rename_i h5
    rw [if_neg h5] at h
    split
    · rename_i h6
      rw [if_pos h6] at h
      omega
    · rfl
def Whole (t : List Node) (i : Int) : Prop := 0 ≤ i → i < t.length → (eatN ar (t.drop i.toNat) 1).isSome = true
end Go.Am.Ty
set_option linter.unusedSimpArgs false
set_option linter.unusedVariables false
set_option maxHeartbeats 1000000
namespace Go.Am.Ty
open Go.Proofs Go.Rose Go.Rose.Rose
open Enc (enc dec)
def Af : Nat → List (Rose Node) → List Int
  | _, [] => []
  | q, x :: xs => (q : Int) :: Af (q + (nds x).length) xs
theorem kidPos_len : ∀ (q : Nat) (xs : List (Rose Node)), (Af q xs).length = xs.length
  | _, [] => rfl
  | q, x :: xs => by simp [Af, kidPos_len _ xs]
theorem kidPos_at : ∀ (q : Nat) (xs : List (Rose Node)) (j : Nat), j < xs.length → (Af q xs).getD j 0 = ((q + (ndss (xs.take j)).length : Nat) : Int)
  | _, [], j, h => by simp at h
  | q, x :: xs, 0, _ => by simp [Af, ndss]
  | q, x :: xs, j + 1, h => by
    simp only [Af, List.getD_cons_succ, List.take_succ_cons, ndss, List.length_append]
    rw [kidPos_at _ xs j (by simpa using h)]
    congr 1
    omega
theorem ats_at {t : List Node} : ∀ {xs : List (Rose Node)} {i j : Nat}, Ats ar t i xs → ∀ h : j < xs.length, At ar t (i + (ndss (xs.take j)).length) xs[j]
  | [], _, _, _, h => by simp at h
  | x :: xs, i, 0, ha, _ => by simpa [ndss] using ha.head.1
  | x :: xs, i, j + 1, ha, h => by
    have := ats_at ha.head.2 (j := j) (by simpa using h)
    simpa [ndss, Nat.add_assoc] using this
end Go.Am.Ty
set_option linter.unusedSimpArgs false
set_option linter.unusedVariables false
set_option maxHeartbeats 1000000
namespace Go.Am.Ty
open Go.Proofs Go.Rose Go.Rose.Rose
open Enc (enc dec)
structure MS where
  out : Option (List Node)
  done : Nat
end Go.Am.Ty
set_option linter.unusedSimpArgs false
set_option linter.unusedVariables false
set_option maxHeartbeats 1000000
namespace Go.Am.Ty
open Go.Proofs Go.Rose Go.Rose.Rose
open Enc (enc dec)
def wordS (k : Int) : List UInt8 := if k = 0 then [63] else if k = 1 then [105, 110, 116] else if k = 2 then [98, 111, 111, 108] else if k = 3 then [115, 116, 114, 105, 110, 103] else [117, 110, 105, 116]
def Short (n : Node) : Prop := 0 ≤ n.kind ∧ n.kind ≤ 4
def Cy : Con := Sn (fun (n : Node) => Short n) (fun n => wordS n.kind)
noncomputable def E5 : Ctx := ⟨tab, lkC [], 60, lkB [], [], false⟩
theorem ctx_word3_t : E5.τ = tab := rfl
theorem ctx_word3_c : E5.Γ = lkC [] := rfl
theorem ctx_word3_d : E5.dp = 60 := rfl
theorem ctx_word3_b : E5.Δ = lkB [] := rfl
theorem ctx_word3_u : E5.cuts = [] := rfl
theorem ctx_word3_w : E5.wr = false := rfl
set_option maxRecDepth 100000 in
theorem good_word3 : M7 Try.prog (58, Cy) := by
  refine ⟨He Try.func58 (by kernel_rfl) rfl, ?_⟩
  have K : Nh Try.prog E5 := Hl Ny Ht (by simp) (by simp)
  obtain ⟨c, hc⟩ : ∃ c, Try.f58.body = some c := ⟨_, rfl⟩
  refine Hm K Try.func58 hc [.tmp 2] rfl 25 rfl (fun cvs hpre => ?_)
  change Cy.pre cvs at hpre
  unfold Cy at hpre
  obtain ⟨n, rfl, h0, h4⟩ := Nw hpre
  simp only [Try.f58, Option.some.injEq] at hc
  subst hc
  have hc : n.kind = 0 ∨ n.kind = 1 ∨ n.kind = 2 ∨ n.kind = 3 ∨ n.kind = 4 := by omega
  (sym =>
   simp [Gt,Gv,Gx,Gu,szN,Gw,ctx_word3_t,ctx_word3_c,ctx_word3_d,ctx_word3_b,ctx_word3_u,ctx_word3_w,Cy.eq_def,Za,Zb,Zc,Ze,Zf,Zg,Zn,Zo,Zp,Zq,Zr,Zs,Zu,Zv,Zx,Z8,Z9,Qa,Qb,Qc,Qd,Qe,Qf,Qg,Qk,Ql,Qm,Qn,Qo,Qp,Qr,Q0,Q1,Q4,Q8,Q9,Ja,Jf,Jh,Ji,Jj,Jk,Jl,Jt,Jy,Jz,J5,J6,Xj,Xk,Xl,Xm,Xn,Xo,Xp,Xq,Xr,Xs,Xt,Xu,Xv,Xy,X1,X2,X3,X4,X5,X6,X7,X8,We,Wf,Wg,Wh,Wi,Wj,Wl,Wn,Wo,Wp,Ws,Wt,Wu,Wv,Ww,Wx,Wy,Wz,W0,W3,W4,W5,W6,W7,W8,W9,Ya,Yb,Yc,Yd,Ye,Yf,Yg,Yh,Yi,Yj,Yk,Yl,Ym,Yn,Yo,Yv,Yw,Yx,Yy,Yz,Y1,Y2,Y3,Y4,Y5,Y6,Y7,Y8,Y9,Va,Vb,Vc,Vd,Ve,Vf,Vg,Vh,Vi,Vj,Vk,Vl,Vm,Vn,Vo,Vp,Vq,Vr,Vs,Vt,Vu,Vv,Vw,Vx,Vy,Vz,V0,V1,V2,V3,V4,V5,V6,V7,V8,V9,Ua,Ub,Uc,Ud,Ue,Uf,Ug,Uh,Ui,Uj,Uk,Ul,Um,Un,Uo,Up,Uq,Ur,Us,Ut,Uu,Uv,U1,U2,U5,U6,U7,U8,U9,Ka,Kb,Kc,Kd,Ke,Kf,Kg,Kh,Ki,Kj,Kk,Kl,Km,Kn,Ko,Kq,Kr,Ks,Kt,Ku,Kv,Kw,Kx,Ky,Kz,K0,K1,K2,K3,K4,K5,K6,K7,Gg,Gi,Gj,Gk,Gl,Gm,Gn,Gr,Hg,H3,Hb]
   tactic =>
    try simp only [G6] at *
    try simp only [nc2] at *
    try simp (maxSteps := 4000000) only [Gt,Gv,Gx,Gu,szN,Gw,Hi]
    unfold wordS
    repeat' (first | with_reducible assumption | with_reducible refine And.intro ?_ ?_ | intro _ | omega | (rw [Gy]; omega))
    all_goals first
      | (rename_i h; rw [h]; rfl)
      | (rename_i h; simp only [h]; rfl)
      | skip)
def arrowS (x y : Node) : List UInt8 := wordS x.kind ++ [32, 45, 62, 32] ++ wordS y.kind
def ArrowOf (t : List Node) : Prop := ∃ p x y, t = [p, x, y] ∧ p.kind = 5 ∧ Short x ∧ Short y
def M3 (n : Nat) : Con := C0 (fun (t : Sl Node) (i : Int) => ArrowOf t.l ∧ ((i = 0 ∧ 2 ≤ n) ∨ ((i = 1 ∨ i = 2) ∧ 1 ≤ n)))
  (fun t i => if i = 0 then arrowS (t.l.getD 1 n0) (t.l.getD 2 n0) else wordS (t.l.getD i.toNat n0).kind)
theorem con_printed3_zero : ∀ c, ¬ (M3 0).pre c := by
  intro c h
  unfold M3 at h
  obtain ⟨_, _, _, _, h⟩ := Mp h
  omega
theorem wordS_len {k : Int} : (wordS k).length ≤ 6 := by
  unfold wordS
  repeat' split
  all_goals simp
theorem many3_short {n : Node} (h : Short n) : Py n = 0 := by
  obtain ⟨h1, h2⟩ := h
  unfold Py
  rw [if_neg (by omega), if_neg (by omega)]
theorem many3_five {n : Node} (h : n.kind = 5) : Py n = 2 := by unfold Py; rw [if_pos h]
noncomputable def Sx (n : Nat) : Ctx := ⟨tab, lkC [(46, Pt), (58, Cy), (39, (M3 n))], 60, lkB [], [], false⟩
theorem Ao (n : Nat) : (Sx n).τ = tab := rfl
theorem Aq (n : Nat) : (Sx n).Γ = lkC [(46, Pt), (58, Cy), (39, (M3 n))] := rfl
theorem Ap (n : Nat) : (Sx n).dp = 60 := rfl
theorem Ar (n : Nat) : (Sx n).Δ = lkB [] := rfl
theorem An (n : Nat) : (Sx n).cuts = [] := rfl
theorem Al (n : Nat) : (Sx n).wr = false := rfl
set_option maxRecDepth 100000 in
theorem step_printed3 (n : Nat) (ih : M7 Try.prog (39, M3 n)) : M7 Try.prog (39, (M3 (n + 1))) := by
  refine ⟨He Try.func39 (by kernel_rfl) rfl, ?_⟩
  have K : Nh Try.prog (Sx n) := Hl Ny Ht (by
    intro p hp
    simp only [List.mem_cons, List.not_mem_nil, or_false] at hp
    rcases hp with rfl | rfl | rfl
    · exact good_Kids3
    · exact good_word3
    · exact ih) (by simp)
  obtain ⟨c, hc⟩ : ∃ c, Try.f39.body = some c := ⟨_, rfl⟩
  refine Hm K Try.func39 hc [.tmp 4] rfl 126 rfl (fun cvs hpre => ?_)
  change (M3 (n + 1)).pre cvs at hpre
  unfold M3 at hpre
  obtain ⟨⟨t⟩, i, rfl, ⟨p, x, y, ht, hp, hx, hy⟩, hi⟩ := Mp hpre
  simp only at ht
  subst ht
  have mx := many3_short hx
  have my := many3_short hy
  have mp := many3_five hp
  have hT : Tame [p, x, y] := by
    refine ⟨by simp, fun n hn => ?_⟩
    simp only [List.mem_cons, List.not_mem_nil, or_false] at hn
    rcases hn with rfl | rfl | rfl
    · omega
    · omega
    · omega
  have hA : ArrowOf [p, x, y] := ⟨p, x, y, rfl, hp, hx, hy⟩
  have ep : el (List.map (enc : Node → D) [p, x, y]) 0 = enc p := rfl
  have ex : el (List.map (enc : Node → D) [p, x, y]) 1 = enc x := rfl
  have ey : el (List.map (enc : Node → D) [p, x, y]) 2 = enc y := rfl
  obtain ⟨L, hL⟩ : ∃ L, [p, x, y] = L := ⟨_, rfl⟩
  have g0 : L.getD 0 n0 = p := by rw [← hL]; rfl
  have g1 : L.getD 1 n0 = x := by rw [← hL]; rfl
  have g2 : L.getD 2 n0 = y := by rw [← hL]; rfl
  have hlen : L.length = 3 := by rw [← hL]; rfl
  rw [hL] at ep ex ey hT hA
  have hx5 : (x.kind == 5) = false := by rw [beq_eq_false_iff_ne]; have := hx.2; omega
  have hy5 : (y.kind == 5) = false := by rw [beq_eq_false_iff_ne]; have := hy.2; omega
  have hp5 : (p.kind == 5) = true := by rw [beq_iff_eq]; exact hp
  have hx6 : (x.kind != 6) = true := by rw [bne_iff_ne]; have := hx.2; omega
  have hy6 : (y.kind != 6) = true := by rw [bne_iff_ne]; have := hy.2; omega
  have hx7 : (x.kind != 7) = true := by rw [bne_iff_ne]; have := hx.2; omega
  have hy7 : (y.kind != 7) = true := by rw [bne_iff_ne]; have := hy.2; omega
  have wx := wordS_len (k := x.kind)
  have wy := wordS_len (k := y.kind)
  simp only [Try.f39, Option.some.injEq] at hc
  subst hc
  refine Mn 7 (of_decide_eq_true (by kernel_rfl)) ?_
  rcases hi with ⟨rfl, hn⟩ | ⟨rfl | rfl, hn⟩
  · have hk : Tv L 0 = [1, 2] := by
      rw [← hL]
      unfold Tv
      rw [if_neg (by simp)]
      show Pb _ (Py p).toNat 1 = _
      rw [mp]
      have e1 : eat [x, y] 1 = 1 := by
        simp only [eat, mx]
        rfl
      have e2 : (2 : Int).toNat = 1 + 1 := rfl
      rw [e2, Pb, if_pos (by simp)]
      show (1 : Int) :: Pb [p, x, y] 1 (1 + eat [x, y] 1) = _
      rw [e1, Pb, if_pos (by simp)]
      rfl
    (sym =>
     simp [hL,hlen,hk,ep,ex,ey,g0,g1,g2,hp5,hx5,Gt,Gv,Gx,Gu,szN,Gw,Ao,Aq,Ap,Ar,An,Al,Pt.eq_def,M3.eq_def,Cy.eq_def,Za,Zb,Zc,Zd,Ze,Zf,Zg,Zn,Zo,Zp,Zq,Zr,Zs,Zt,Zv,Zx,Zy,Z5,Z8,Z9,Qa,Qb,Qc,Qd,Qe,Qf,Qg,Qk,Ql,Qm,Qn,Qo,Qp,Qr,Q0,Q1,Q4,Q8,Q9,Ja,Jf,Jh,Ji,Jj,Jk,Jl,Jt,Jx,Jy,Jz,J0,J1,J2,J5,J6,J7,J8,J9,Xa,Xb,Xc,Xd,Xe,Xf,Xg,Xj,Xk,Xl,Xm,Xn,Xo,Xp,Xq,Xr,Xs,Xt,Xu,Xv,Xw,Xx,Xy,X1,X2,X3,X4,X5,X6,X7,X8,We,Wf,Wg,Wh,Wi,Wj,Wl,Wm,Wn,Wo,Wp,Ws,Wt,Wu,Wv,Ww,Wx,Wy,Wz,W0,W3,W4,W5,W6,W7,W8,W9,Ya,Yb,Yc,Yd,Ye,Yf,Yg,Yh,Yi,Yj,Yk,Yl,Ym,Yn,Yo,Yr,Ys,Yt,Yu,Yv,Yw,Yx,Yy,Yz,Y1,Y2,Y3,Y4,Y5,Y6,Y7,Y8,Y9,Va,Vb,Vc,Vd,Ve,Vf,Vg,Vh,Vi,Vj,Vk,Vl,Vm,Vn,Vo,Vp,Vq,Vr,Vs,Vt,Vu,Vv,Vw,Vx,Vy,Vz,V0,V1,V2,V3,V4,V5,V6,V7,V8,V9,Ua,Ub,Uc,Ud,Ue,Uf,Ug,Uh,Ui,Uj,Uk,Ul,Um,Un,Uo,Up,Uq,Ur,Us,Ut,Uu,Uv,U1,U2,U5,U6,U7,U8,U9,Ka,Kb,Kc,Kd,Ke,Kf,Kg,Kh,Ki,Kj,Kk,Kl,Km,Kn,Ko,Kq,Kr,Ks,Kt,Ku,Kv,Kw,Kx,Ky,Kz,K0,K1,K2,K3,K4,K5,K6,K7,Gg,Gi,Gj,Gk,Gl,Gm,Gn,Gr,Hg,H3,Hc,Hb,Mt]
     tactic =>
      try simp only [G6] at *
      try simp only [nc2] at *
      try simp (maxSteps := 4000000) only [hL,hlen,hk,ep,ex,ey,g0,g1,g2,hp5,hx5,Gt,Gv,Gx,Gu,szN,Gw,Hi]
      repeat' (first | with_reducible assumption | with_reducible refine And.intro ?_ ?_ | intro _ | omega | (rw [Gy]; omega))
      all_goals first
        | (simp only [List.length_append, List.length_cons, List.length_nil]; omega)
        | (unfold arrowS; simp only [List.append_assoc])
        | (simp; omega))
  · have hk : Tv L 1 = [] := by
      rw [← hL]
      unfold Tv
      rw [if_neg (by simp)]
      show Pb _ (Py x).toNat 2 = _
      rw [mx]
      rfl
    (sym =>
     simp [hL,hlen,hk,ep,ex,ey,g0,g1,g2,hx5,hx6,hx7,Gt,Gv,Gx,Gu,szN,Gw,Ao,Aq,Ap,Ar,An,Al,Pt.eq_def,M3.eq_def,Cy.eq_def,Za,Zb,Zc,Zd,Ze,Zf,Zg,Zn,Zo,Zp,Zq,Zr,Zs,Zt,Zv,Zx,Zy,Z5,Z8,Z9,Qa,Qb,Qc,Qd,Qe,Qf,Qg,Qk,Ql,Qm,Qn,Qo,Qp,Qr,Q0,Q1,Q4,Q8,Q9,Ja,Jf,Jh,Ji,Jj,Jk,Jl,Jt,Jx,Jy,Jz,J0,J1,J2,J5,J6,J7,J8,J9,Xa,Xb,Xc,Xd,Xe,Xf,Xg,Xj,Xk,Xl,Xm,Xn,Xo,Xp,Xq,Xr,Xs,Xt,Xu,Xv,Xw,Xx,Xy,X1,X2,X3,X4,X5,X6,X7,X8,We,Wf,Wg,Wh,Wi,Wj,Wl,Wm,Wn,Wo,Wp,Ws,Wt,Wu,Wv,Ww,Wx,Wy,Wz,W0,W3,W4,W5,W6,W7,W8,W9,Ya,Yb,Yc,Yd,Ye,Yf,Yg,Yh,Yi,Yj,Yk,Yl,Ym,Yn,Yo,Yr,Ys,Yt,Yu,Yv,Yw,Yx,Yy,Yz,Y1,Y2,Y3,Y4,Y5,Y6,Y7,Y8,Y9,Va,Vb,Vc,Vd,Ve,Vf,Vg,Vh,Vi,Vj,Vk,Vl,Vm,Vn,Vo,Vp,Vq,Vr,Vs,Vt,Vu,Vv,Vw,Vx,Vy,Vz,V0,V1,V2,V3,V4,V5,V6,V7,V8,V9,Ua,Ub,Uc,Ud,Ue,Uf,Ug,Uh,Ui,Uj,Uk,Ul,Um,Un,Uo,Up,Uq,Ur,Us,Ut,Uu,Uv,U1,U2,U5,U6,U7,U8,U9,Ka,Kb,Kc,Kd,Ke,Kf,Kg,Kh,Ki,Kj,Kk,Kl,Km,Kn,Ko,Kq,Kr,Ks,Kt,Ku,Kv,Kw,Kx,Ky,Kz,K0,K1,K2,K3,K4,K5,K6,K7,Gg,Gi,Gj,Gk,Gl,Gm,Gn,Gr,Hg,H3,Hc,Hb,Mt]
     tactic =>
      try simp only [G6] at *
      try simp only [nc2] at *
      try simp (maxSteps := 4000000) only [hL,hlen,hk,ep,ex,ey,g0,g1,g2,hx5,hx6,hx7,Gt,Gv,Gx,Gu,szN,Gw,Hi]
      repeat' (first | with_reducible assumption | with_reducible refine And.intro ?_ ?_ | intro _ | omega | (rw [Gy]; omega)))
  · have hk : Tv L 2 = [] := by
      rw [← hL]
      unfold Tv
      rw [if_neg (by simp)]
      show Pb _ (Py y).toNat 3 = _
      rw [my]
      rfl
    (sym =>
     simp [hL,hlen,hk,ep,ex,ey,g0,g1,g2,hy5,hy6,hy7,Gt,Gv,Gx,Gu,szN,Gw,Ao,Aq,Ap,Ar,An,Al,Pt.eq_def,M3.eq_def,Cy.eq_def,Za,Zb,Zc,Zd,Ze,Zf,Zg,Zn,Zo,Zp,Zq,Zr,Zs,Zt,Zv,Zx,Zy,Z5,Z8,Z9,Qa,Qb,Qc,Qd,Qe,Qf,Qg,Qk,Ql,Qm,Qn,Qo,Qp,Qr,Q0,Q1,Q4,Q8,Q9,Ja,Jf,Jh,Ji,Jj,Jk,Jl,Jt,Jx,Jy,Jz,J0,J1,J2,J5,J6,J7,J8,J9,Xa,Xb,Xc,Xd,Xe,Xf,Xg,Xj,Xk,Xl,Xm,Xn,Xo,Xp,Xq,Xr,Xs,Xt,Xu,Xv,Xw,Xx,Xy,X1,X2,X3,X4,X5,X6,X7,X8,We,Wf,Wg,Wh,Wi,Wj,Wl,Wm,Wn,Wo,Wp,Ws,Wt,Wu,Wv,Ww,Wx,Wy,Wz,W0,W3,W4,W5,W6,W7,W8,W9,Ya,Yb,Yc,Yd,Ye,Yf,Yg,Yh,Yi,Yj,Yk,Yl,Ym,Yn,Yo,Yr,Ys,Yt,Yu,Yv,Yw,Yx,Yy,Yz,Y1,Y2,Y3,Y4,Y5,Y6,Y7,Y8,Y9,Va,Vb,Vc,Vd,Ve,Vf,Vg,Vh,Vi,Vj,Vk,Vl,Vm,Vn,Vo,Vp,Vq,Vr,Vs,Vt,Vu,Vv,Vw,Vx,Vy,Vz,V0,V1,V2,V3,V4,V5,V6,V7,V8,V9,Ua,Ub,Uc,Ud,Ue,Uf,Ug,Uh,Ui,Uj,Uk,Ul,Um,Un,Uo,Up,Uq,Ur,Us,Ut,Uu,Uv,U1,U2,U5,U6,U7,U8,U9,Ka,Kb,Kc,Kd,Ke,Kf,Kg,Kh,Ki,Kj,Kk,Kl,Km,Kn,Ko,Kq,Kr,Ks,Kt,Ku,Kv,Kw,Kx,Ky,Kz,K0,K1,K2,K3,K4,K5,K6,K7,Gg,Gi,Gj,Gk,Gl,Gm,Gn,Gr,Hg,H3,Hc,Hb,Mt]
     tactic =>
      try simp only [G6] at *
      try simp only [nc2] at *
      try simp (maxSteps := 4000000) only [hL,hlen,hk,ep,ex,ey,g0,g1,g2,hy5,hy6,hy7,Gt,Gv,Gx,Gu,szN,Gw,Hi]
      repeat' (first | with_reducible assumption | with_reducible refine And.intro ?_ ?_ | intro _ | omega | (rw [Gy]; omega)))
theorem goodn_printed3 : ∀ n, M7 Try.prog (39, M3 n)
  | 0 => good_void (He Try.func39 (by kernel_rfl) rfl) con_printed3_zero
  | n + 1 => step_printed3 n (goodn_printed3 n)
def C4 : Con := M3 2
theorem good_printed3A : M7 Try.prog (39, C4) := goodn_printed3 2
theorem con_printed3A_d : C4 = M3 2 := rfl
def D1 : Con := Sn (fun (t : Sl Node) => ArrowOf t.l) (fun t => arrowS (t.l.getD 1 n0) (t.l.getD 2 n0))
noncomputable def Du : Ctx := ⟨tab, lkC [(39, C4)], 60, lkB [], [], false⟩
theorem ctx_Print3_t : Du.τ = tab := rfl
theorem ctx_Print3_c : Du.Γ = lkC [(39, C4)] := rfl
theorem ctx_Print3_d : Du.dp = 60 := rfl
theorem ctx_Print3_b : Du.Δ = lkB [] := rfl
theorem ctx_Print3_u : Du.cuts = [] := rfl
theorem ctx_Print3_w : Du.wr = false := rfl
set_option maxRecDepth 100000 in
theorem good_Print3 : M7 Try.prog (22, D1) := by
  refine ⟨He Try.func22 (by kernel_rfl) rfl, ?_⟩
  have K : Nh Try.prog Du := Hl Ny Ht (by
    intro p hp
    simp only [List.mem_cons, List.not_mem_nil, or_false] at hp
    rcases hp with rfl
    · exact good_printed3A) (by simp)
  obtain ⟨c, hc⟩ : ∃ c, Try.f22.body = some c := ⟨_, rfl⟩
  refine Hm K Try.func22 hc [.tmp 2] rfl 5 rfl (fun cvs hpre => ?_)
  change D1.pre cvs at hpre
  unfold D1 at hpre
  obtain ⟨⟨t⟩, rfl, hA⟩ := Nw hpre
  simp only at hA
  simp only [Try.f22, Option.some.injEq] at hc
  subst hc
  (sym =>
   simp [con_printed3A_d,M3.eq_def,Gt,Gv,Gx,Gu,szN,Gw,ctx_Print3_t,ctx_Print3_c,ctx_Print3_d,ctx_Print3_b,ctx_Print3_u,ctx_Print3_w,D1.eq_def,C4.eq_def,Za,Zb,Zc,Ze,Zf,Zg,Zn,Zo,Zp,Zq,Zr,Zs,Zv,Z8,Z9,Qa,Qb,Qc,Qd,Qe,Qf,Qg,Qk,Qm,Qn,Qo,Qp,Qr,Q0,Q1,Q4,Q8,Q9,Ja,Jf,Jh,Ji,Jj,Jk,Jl,Jt,Jy,Jz,J5,J6,Xj,Xk,Xl,Xm,Xn,Xo,Xp,Xq,Xr,Xs,Xt,Xu,Xv,Xy,X1,X2,X3,X4,X5,X6,X7,X8,We,Wf,Wg,Wh,Wi,Wj,Wl,Wn,Wo,Wp,Ws,Wt,Wu,Wv,Ww,Wx,Wy,Wz,W0,W3,W4,W5,W6,W7,W8,W9,Ya,Yb,Yc,Yd,Ye,Yf,Yg,Yh,Yi,Yj,Yk,Yl,Ym,Yn,Yo,Yv,Yw,Yx,Yy,Yz,Y1,Y2,Y3,Y4,Y5,Y6,Y7,Y8,Y9,Va,Vb,Vc,Vd,Ve,Vf,Vg,Vh,Vi,Vj,Vk,Vl,Vm,Vn,Vo,Vp,Vq,Vr,Vs,Vt,Vu,Vv,Vw,Vx,Vy,Vz,V0,V1,V2,V3,V4,V5,V6,V7,V8,V9,Ua,Ub,Uc,Ud,Ue,Uf,Ug,Uh,Ui,Uj,Uk,Ul,Um,Un,Uo,Up,Uq,Ur,Us,Ut,Uu,Uv,U1,U2,U5,U6,U7,U8,U9,Ka,Kb,Kc,Kd,Ke,Kf,Kg,Kh,Ki,Kj,Kk,Kl,Km,Kn,Ko,Kq,Kr,Ks,Kt,Ku,Kv,Kw,Kx,Ky,Kz,K0,K1,K2,K3,K4,K5,K6,K7,Gg,Gi,Gj,Gk,Gl,Gm,Gn,Gr,Hc,Hb]
   tactic =>
    try simp only [G6] at *
    try simp only [nc2] at *
    try simp (maxSteps := 4000000) only [con_printed3A_d,M3.eq_def,Gt,Gv,Gx,Gu,szN,Gw,Hi]
    repeat' (first | with_reducible assumption | with_reducible refine And.intro ?_ ?_ | intro _ | omega | (rw [Gy]; omega)))
end Go.Am.Ty
set_option linter.unusedSimpArgs false
set_option linter.unusedVariables false
set_option maxHeartbeats 1000000
namespace Go.Am.Ty
open Go.Proofs Go.Rose Go.Rose.Rose
def D3 (l : List Node) : Prop := ∀ n ∈ l, Tg n = true
theorem many_ar {n : Node} (h : Tg n = true) : Py n = (ar n : Int) := (ar_many3 (numb3_tame h).1).symm
theorem eat_eatN : ∀ {l : List Node} {o k : Nat}, D3 l → 1 ≤ o → eatN ar l o = some k → eat l o = k
  | [], o + 1, k, _, _, h => by simp [eatN] at h
  | n :: l, o + 1, k, hn, _, h => by
    rw [eatN, Option.map_eq_some_iff] at h
    obtain ⟨k', h1, rfl⟩ := h
    have hm := many_ar (hn n (by simp))
    have e : ((o + 1 : Nat) : Int) - 1 + Py n = ((o + ar n : Nat) : Int) := by rw [hm]; omega
    rw [eat, e]
    by_cases hz : o + ar n = 0
    · rw [if_pos (by omega)]
      rw [hz] at h1
      cases l <;> (simp only [eatN, Option.some.injEq] at h1; omega)
    · rw [if_neg (by omega), eat_eatN (fun m hm => hn m (List.mem_cons_of_mem _ hm)) (by omega) h1]
      omega
theorem numb_drop {l : List Node} {i : Nat} (h : D3 l) : D3 (l.drop i) := fun n hn => h n (List.mem_of_mem_drop hn)
theorem eat_at {t : List Node} {i : Nat} {x : Rose Node} (hn : D3 t) (h : At ar t i x) : eat (t.drop i) 1 = (nds x).length := eat_eatN (o := 1) (numb_drop hn) (Nat.le_refl _) (at_eatN h)
theorem end3_at {t : List Node} {i : Nat} {x : Rose Node} (hn : D3 t) (h : At ar t i x) : end3 t i = ((i + (nds x).length : Nat) : Int) := by
  unfold end3
  have := h.lt
  rw [if_neg (by omega), Int.toNat_natCast, eat_at hn h]
  simp
theorem kidsFrom_ats {t : List Node} (hn : D3 t) : ∀ {ks : List (Rose Node)} {q : Nat}, Ats ar t q ks → Pb t ks.length q = Af q ks
  | [], _, _ => rfl
  | x :: ks, q, h => by
    have hx := h.head
    rw [List.length_cons, Pb, if_pos hx.1.lt, eat_at hn hx.1, Af, kidsFrom_ats hn hx.2]
theorem kids3_at {t : List Node} {i : Nat} {x : Rose Node} (hn : D3 t) (h : At ar t i x) : Tv t i = Af (i + 1) x.kids := by
  unfold Tv
  have hl := h.lt
  have hk := h.kids
  have hm := many_ar (hn (t.getD i n0) (by simp [hl]))
  rw [if_neg (by omega)]
  simp only [Int.toNat_natCast]
  rw [show (⟨0, [], 0⟩ : Node) = n0 from rfl, hm, h.root n0, Int.toNat_natCast, ← hk.2, kidsFrom_ats hn hk.1]
theorem ats_of_kids {t : List Node} (hn : D3 t) : ∀ {m q : Nat}, (Pb t m q).length = m → (∀ j, q ≤ j → j < t.length → ∃ z, At ar t j z) → q ≤ t.length → ∃ ks : List (Rose Node), ks.length = m ∧ Ats ar t q ks
  | 0, q, _, _, hq => ⟨[], rfl, trivial, t.drop q, by simp [ndss]⟩
  | m + 1, q, h, hz, hq => by
    rw [Pb] at h
    by_cases hlt : q < t.length
    · rw [if_pos hlt] at h
      obtain ⟨x, hx⟩ := hz q (Nat.le_refl _) hlt
      rw [eat_at hn hx] at h
      obtain ⟨ks, h1, h2, r, h3⟩ := ats_of_kids hn (m := m) (q := q + (nds x).length) (by simpa using h) (fun j hj => hz j (by omega)) hx.le
      obtain ⟨h4, r', h5⟩ := hx
      refine ⟨x :: ks, by simp [h1], ⟨h4, h2⟩, r, ?_⟩
      rw [← List.drop_drop, h5, List.drop_left'] at h3
      · rw [h5, h3, ndss, List.append_assoc]
      · rfl
    · rw [if_neg hlt] at h
      simp at h
theorem trees_of_labs {t : List Node} (hn : D3 t) (h : ∀ i, i < t.length → ((Tv t i).length : Int) = Py (t.getD i n0)) : ∀ (m i : Nat), t.length - i ≤ m → i < t.length → ∃ z, At ar t i z
  | 0, i, hm, hi => by omega
  | m + 1, i, hm, hi => by
    have h1 := h i hi
    have hmn := many_ar (hn (t.getD i n0) (by simp [hi]))
    unfold Tv at h1
    rw [if_neg (by omega)] at h1
    simp only [Int.toNat_natCast] at h1
    rw [show (⟨0, [], 0⟩ : Node) = n0 from rfl, hmn, Int.toNat_natCast] at h1
    obtain ⟨ks, k1, k2, r, k3⟩ := ats_of_kids hn (m := ar (t.getD i n0)) (q := i + 1) (by omega) (fun j hj hjl => trees_of_labs hn h m j (by omega) hjl) (by omega)
    refine ⟨mk (t.getD i n0) ks, ⟨k1, k2⟩, r, ?_⟩
    rw [List.drop_eq_getElem_cons hi, k3, I5]
    simp [hi]
def deepOk (r d : Nat) : Bool := decide (r + d ≤ 100)
theorem deep_t {r d : Nat} (h : r + d ≤ 100) : deepOk r d = true := decide_eq_true h
theorem deep_f {r d : Nat} (h : ¬ r + d ≤ 100) : deepOk r d = false := decide_eq_false h
theorem deep_eq {r d r' d' : Nat} (h : r + d = r' + d') : deepOk r d = deepOk r' d' := by unfold deepOk; rw [h]
mutual
theorem shal_tree : ∀ (x : Rose Node) (l : List Node) (rs : List Int), wf ar x → D3 (nds x) → shal (nds x ++ l) rs = (deepOk rs.length (depth x) && shal l (popA 0 rs))
  | mk n ks, l, rs, hw, hn => by
    have hm := many_ar (hn n (by simp [nds]))
    rw [I5, List.cons_append, shal, hm, ← hw.1]
    cases ks with
    | nil =>
      have hd : depth (mk n []) = 1 := by simp [depth, depths]
      rw [hd]
      simp only [ndss, List.nil_append, List.length_nil]
      by_cases h : 100 ≤ rs.length
      · rw [if_pos h, deep_f (by omega)]; rfl
      · rw [if_neg h, deep_t (by omega)]; rfl
    | cons y ys =>
      have hd : depth (mk n (y :: ys)) = 1 + depths (y :: ys) := by rw [depth]
      rw [hd, popA_stop (by simp only [List.length_cons]; omega), shal_forest (y :: ys) l rs (by simp) hw.2 (fun m hm => hn m (by rw [I5]; exact List.mem_cons_of_mem _ hm))]
      by_cases h : 100 ≤ rs.length
      · rw [if_pos h, deep_f (by omega)]; rfl
      · rw [if_neg h]
theorem shal_forest : ∀ (xs : List (Rose Node)) (l : List Node) (rs : List Int), xs ≠ [] → wfs ar xs → D3 (ndss xs) → shal (ndss xs ++ l) ((xs.length : Int) :: rs) = (deepOk rs.length (1 + depths xs) && shal l (popA 0 rs))
  | [], _, _, h, _, _ => absurd rfl h
  | x :: ts, l, rs, _, hw, hn => by
    have h0 := shal_tree x
    cases ts with
    | nil =>
      simp only [ndss, List.append_nil] at hn ⊢
      have hd : depths [x] = depth x := by simp [depths]
      rw [h0 l _ hw.1 hn, hd]
      simp only [List.length_cons, List.length_nil]
      rw [deep_eq (r := rs.length + 1) (d := depth x) (r' := rs.length) (d' := 1 + depth x) (by omega)]
      rfl
    | cons y ts =>
      have h2 := shal_forest (y :: ts) l rs (by simp) hw.2 (fun m hm => hn m (by rw [ndss]; exact List.mem_append_right _ hm))
      rw [ndss, List.append_assoc, h0 _ _ hw.1 (fun m hm => hn m (by rw [ndss]; exact List.mem_append_left _ hm))]
      have e : popA 0 ((((x :: y :: ts).length : Nat) : Int) :: rs) = (((y :: ts).length : Nat) : Int) :: rs := by
        rw [popA, if_pos rfl, show (((x :: y :: ts).length : Nat) : Int) - 1 = (((y :: ts).length : Nat) : Int) by simp only [List.length_cons]; omega, popA_stop (by simp only [List.length_cons]; omega)]
      have hd : depths (x :: y :: ts) = max (depth x) (depths (y :: ts)) := by rw [depths]
      rw [e, h2, hd]
      simp only [List.length_cons]
      by_cases h1 : rs.length + 1 + depth x ≤ 100
      · rw [deep_t h1, Bool.true_and]
        by_cases h2 : rs.length + (1 + depths (y :: ts)) ≤ 100
        · rw [deep_t h2, deep_t (r := rs.length) (d := 1 + max (depth x) (depths (y :: ts))) (by omega)]
        · rw [deep_f h2, deep_f (r := rs.length) (d := 1 + max (depth x) (depths (y :: ts))) (by omega)]
      · rw [deep_f h1, deep_f (r := rs.length) (d := 1 + max (depth x) (depths (y :: ts))) (by omega)]
        rfl
end
theorem shallow3_tree {x : Rose Node} (hw : wf ar x) (hn : D3 (nds x)) : Ab (nds x) = deepOk 0 (depth x) := by
  have := shal_tree x [] [] hw hn
  simp only [List.append_nil, List.length_nil] at this
  unfold Ab
  rw [this, shal]
  simp
def labZ (n : Node) (ks : List (Rose Node)) : Bool := (List.range ks.length).all fun k => labK n (ks.getD k (mk n0 [])).root (ks.getD (k - 1) (mk n0 [])).root (ltB 0 k) ((k : Int) == (ks.length : Int) - 1)
mutual
def labT : Rose Node → Bool
  | mk n ks => labZ n ks && labTs ks
def labTs : List (Rose Node) → Bool
  | [] => true
  | x :: xs => labT x && labTs xs
end
theorem lab3_at {t : List Node} {i : Nat} {x : Rose Node} (hn : D3 t) (h : At ar t i x) : lab3 t i = labZ x.root x.kids := by
  have hk := h.kids
  have hl := h.lt
  have hm := many_ar (hn (t.getD i n0) (by simp [hl]))
  have hr := h.root n0
  unfold lab3
  rw [kids3_at hn h, kidPos_len, hr]
  rw [hr] at hm
  rw [hm, hk.2]
  rw [show ((ar x.root : Int) == (ar x.root : Int)) = true by simp, Bool.true_and]
  unfold labZ
  rw [hk.2]
  apply Bool.eq_iff_iff.2
  simp only [List.all_eq_true, List.mem_range]
  have key : ∀ k, k < x.kids.length → Ow t (Af (i + 1) x.kids) k = (x.kids.getD k (mk n0 [])).root := by
    intro k hk'
    unfold Ow
    rw [kidPos_at _ _ k hk', Int.toNat_natCast]
    have := (ats_at hk.1 hk').root n0
    rw [this]
    simp [hk']
  have e : ∀ k, k < ar x.root → labAt t i (Af (i + 1) x.kids) k = labK x.root (x.kids.getD k (mk n0 [])).root (x.kids.getD (k - 1) (mk n0 [])).root (ltB 0 k) ((k : Int) == (ar x.root : Int) - 1) := by
    intro k hk'
    unfold labAt
    rw [hr, key k (by omega), key (k - 1) (by omega), kidPos_len, hk.2]
  constructor
  · intro g k hk'
    rw [← e k hk']; exact g k hk'
  · intro g k hk'
    rw [e k hk']; exact g k hk'
mutual
theorem labT_at {t : List Node} (hn : D3 t) : ∀ {x : Rose Node} {i : Nat}, At ar t i x → (labT x = true ↔ ∀ j, i ≤ j → j < i + (nds x).length → lab3 t j = true)
  | mk n ks, i, h => by
    have h1 := lab3_at hn h
    have hk : Ats ar t (i + 1) ks := h.kids.1
    rw [labT, Bool.and_eq_true, labTs_at hn hk, I5, List.length_cons]
    simp only [root, kids] at h1 ⊢
    constructor
    · rintro ⟨g1, g2⟩ j hj1 hj2
      by_cases hji : j = i
      · subst hji; rw [h1]; exact g1
      · exact g2 j (by omega) (by omega)
    · intro g
      exact ⟨by rw [← h1]; exact g i (Nat.le_refl _) (by omega), fun j hj1 hj2 => g j (by omega) (by omega)⟩
theorem labTs_at {t : List Node} (hn : D3 t) : ∀ {xs : List (Rose Node)} {i : Nat}, Ats ar t i xs → (labTs xs = true ↔ ∀ j, i ≤ j → j < i + (ndss xs).length → lab3 t j = true)
  | [], i, _ => by simp only [labTs, ndss, List.length_nil, true_iff]; intro j h1 h2; omega
  | x :: xs, i, h => by
    rw [labTs, Bool.and_eq_true, labT_at hn h.head.1, labTs_at hn h.head.2]
    simp only [ndss, List.length_append]
    constructor
    · rintro ⟨g1, g2⟩ j hj1 hj2
      rcases Nat.lt_or_ge j (i + (nds x).length) with hlt | hge
      · exact g1 j hj1 hlt
      · exact g2 j hge (by omega)
    · intro g
      exact ⟨fun j hj1 hj2 => g j hj1 (by omega), fun j hj1 hj2 => g j (by omega) (by omega)⟩
end
structure RT (x : Rose Node) : Prop where
  wf : wf ar x
  numb : D3 (nds x)
  depth : depth x ≤ 100
  lab : labT x = true
  name : x.root.name = []
  kind : x.root.kind ≠ 9
  len : (nds x).length ≤ 10000
theorem right3_rt {x : Rose Node} (h : RT x) : Bc (nds x) = true := by
  have ha := at_whole h.wf
  have hp := nds_pos x
  have hr := ha.root n0
  unfold Bc
  have h1 : Pm (nds x) = false := by
    unfold Pm
    rw [hr, h.name]
    have e1 : ((nds x).length == 0) = false := by rw [beq_eq_false_iff_ne]; omega
    have e2 : ltB 10000 ((nds x).length : Int) = false := by rw [Me]; have := h.len; omega
    have e3 : (x.root.kind == 9) = false := by rw [beq_eq_false_iff_ne]; exact h.kind
    rw [e1, e2, e3]
    rfl
  have h2 : (nds x).all Tg = true := List.all_eq_true.2 h.numb
  have h3 : end3 (nds x) 0 = ((nds x).length : Int) := by have := end3_at h.numb ha; simpa using this
  have h4 : Ab (nds x) = true := by rw [shallow3_tree h.wf h.numb]; exact deep_t (by have := h.depth; omega)
  have h5 : ((List.range (nds x).length).all fun i => lab3 (nds x) i) = true := Cg fun j hj => (labT_at h.numb ha).1 h.lab j (Nat.zero_le _) (by omega)
  rw [h1, h2, h3, h4, h5]
  simp
theorem Ed {t : List Node} (h : Bc t = true) : ∃ x, t = nds x ∧ RT x := by
  unfold Bc at h
  simp only [Bool.and_eq_true, Bool.not_eq_true', beq_iff_eq] at h
  obtain ⟨h1, h2, ⟨h3, h4⟩, h5⟩ := h
  unfold Pm at h1
  simp only [Bool.or_eq_false_iff, beq_eq_false_iff_ne, Bool.not_eq_false', beq_iff_eq, Me] at h1
  obtain ⟨⟨⟨g1, g2⟩, g3⟩, g4⟩ := h1
  have hn : D3 t := List.all_eq_true.1 h2
  have hl : ∀ i, i < t.length → lab3 t i = true := fun i hi => List.all_eq_true.1 h5 i (List.mem_range.2 hi)
  have hk : ∀ i, i < t.length → ((Tv t i).length : Int) = Py (t.getD i n0) := by
    intro i hi
    have := hl i hi
    unfold lab3 at this
    rw [Bool.and_eq_true, beq_iff_eq] at this
    exact this.1
  obtain ⟨x, hx⟩ := trees_of_labs hn hk t.length 0 (by omega) (by omega)
  have he := end3_at hn hx
  have he' : end3 t 0 = ((0 + (nds x).length : Nat) : Int) := he
  rw [h3] at he'
  obtain ⟨hw, r, hr⟩ := id hx
  have htx : t = nds x := by
    rw [List.drop_zero] at hr
    have := congrArg List.length hr
    rw [List.length_append] at this
    have hr0 : r = [] := List.length_eq_zero_iff.1 (by omega)
    rw [hr, hr0, List.append_nil]
  have hroot := hx.root n0
  subst htx
  refine ⟨x, rfl, ⟨hw, hn, ?_, (labT_at hn hx).2 fun j _ hj => hl j (by omega), by rw [← hroot]; exact g3, by rw [← hroot]; exact g4, by omega⟩⟩
  rw [shallow3_tree hw hn] at h4
  have := of_decide_eq_true h4
  omega
end Go.Am.Ty
set_option linter.unusedSimpArgs false
set_option linter.unusedVariables false
set_option maxHeartbeats 1000000
namespace Go.Am.Ty
open Go.Proofs Go.Rose Go.Rose.Rose
open Enc (enc dec)
theorem el_map0 {l : List Node} (h : 0 < l.length) : el (l.map (enc : Node → D)) 0 = enc (l.getD 0 n0) := H7 n0 h
end Go.Am.Ty
set_option linter.unusedSimpArgs false
set_option linter.unusedVariables false
namespace Go.Am.Ty
open Go.Proofs
open Enc (enc dec)
theorem all2_3 {p q r : D → Prop} {ds : List D} (h : All2 [p, q, r] ds) : ∃ a b c, ds = [a, b, c] ∧ p a ∧ q b ∧ r c := by
  match ds, h with
  | [a, b, c], h => exact ⟨a, b, c, rfl, h.1, h.2.1, h.2.2.1⟩
theorem rdNode : Rdt Try.prog 29 3 true Node (fun n => n.name.length ≤ maxLen) :=
  (rd_struct (ps := [_, _, _]) Try.underlying29 (by kernel_rfl) rfl ⟨rfl, by kernel_rfl, rdt_int Try.underlying3, rfl, by kernel_rfl, rdt_str Try.underlying9, rfl, by kernel_rfl, rdt_int Try.underlying3, trivial⟩).mono fun x h => by
    obtain ⟨ds, rfl, h⟩ := h
    obtain ⟨a, b, c, rfl, ⟨k, rfl, _⟩, ⟨s, rfl, hl⟩, ⟨n, rfl, _⟩⟩ := all2_3 h
    exact ⟨⟨k, s, n⟩, rfl, hl⟩
theorem rdNodes : Rdt Try.prog 25 1 false (Sl Node) (fun a => a.l.length ≤ maxLen ∧ ∀ y ∈ a.l, y.name.length ≤ maxLen) := rdt_sl Try.underlying25 (by kernel_rfl) rfl (by decide) rdNode
end Go.Am.Ty
set_option linter.unusedSimpArgs false
set_option linter.unusedVariables false
set_option maxHeartbeats 1000000
namespace Go.Am.Ty
open Go.Proofs Go.Rose Go.Rose.Rose
def cur (a : List Node) (s : MS) (i : Nat) : List Node := s.out.getD [] ++ (a.take i).drop s.done
end Go.Am.Ty
set_option linter.unusedSimpArgs false
set_option linter.unusedVariables false
set_option maxHeartbeats 1000000
namespace Go.Am.Ty
open Go.Proofs Go.Rose Go.Rose.Rose
open Enc (enc dec)
def con1w {A B : Type} [Enc A] [Enc B] [Sz B] (p : A → Prop) (f : A → List B) : Con := ⟨[false], [true], fun c => match c with
  | [.d x] => isE A x ∧ p (dec x)
  | _ => False, fun c => match c with
  | [.d x] => .own (Sz.sz B) ((f (dec x)).map enc)
  | _ => .d .nilp⟩
theorem con1w_pre {A B : Type} [Enc A] [Enc B] [Sz B] {p : A → Prop} {f : A → List B} {c : List CV} (h : (con1w p f).pre c) : ∃ a, c = [.d (enc a)] ∧ p a := by
  unfold con1w at h
  simp only at h
  split at h
  · next x => exact ⟨dec x, by rw [← h.1], h.2⟩
  · exact h.elim
theorem neL_mk {s : Nat} {l : List D} : neL (.list s l) = (l ≠ []) := rfl
def clr : List Node → List Node
  | [] => []
  | n :: r => ⟨n.kind, [], n.n⟩ :: r
def n5 : Node := ⟨5, [], 0⟩
end Go.Am.Ty
set_option linter.unusedSimpArgs false
set_option linter.unusedVariables false
set_option maxHeartbeats 1000000
namespace Go.Am.Ty
open Go.Proofs Go.Rose Go.Rose.Rose
open Enc (enc dec)
theorem numb_tame {t : List Node} (h : D3 t) (hl : t.length ≤ 100000) : Tame t := ⟨hl, fun n hn => numb3_tame (h n hn)⟩
def Ev (ks : List (Rose Node)) : List (Sl Node) := ks.map fun k => Sl.mk (clr (nds k))
end Go.Am.Ty
set_option linter.unusedSimpArgs false
set_option linter.unusedVariables false
set_option maxHeartbeats 1000000
namespace Go.Am.Ty
open Go.Proofs Go.Rose Go.Rose.Rose
open Enc (enc dec)
structure Fn0 (f : Nat) where
instance encFn0 (f : Nat) : Enc (Fn0 f) := ⟨fun _ => .clo f [], fun _ => ⟨⟩, fun _ => rfl⟩
theorem isE_Fn0 {f : Nat} : isE (Fn0 f) (.clo f []) = True := eq_true rfl
end Go.Am.Ty
set_option linter.unusedSimpArgs false
set_option linter.unusedVariables false
set_option maxHeartbeats 1000000
namespace Go.Am.Ty
open Go.Proofs Go.Rose Go.Rose.Rose
open Enc (enc dec)
def idxP {α : Type} (p : α → Bool) (l : List α) : Int := match l.findIdx? p with
  | some i => (i : Int)
  | none => -1
theorem idxP_at {α : Type} {p : α → Bool} {l : List α} {k : Nat} (d : α) (hk : k < l.length) (hno : ∀ j, j < k → p (l.getD j d) = false) (hp : p (l.getD k d) = true) : idxP p l = k := by
  have h : l.findIdx? p = some k := by
    rw [List.findIdx?_eq_some_iff_getElem]
    refine ⟨hk, by simpa [hk] using hp, fun j hj => ?_⟩
    have := hno j hj
    simpa [show j < l.length by omega] using this
  unfold idxP
  rw [h]
theorem idxP_none {α : Type} {p : α → Bool} {l : List α} (d : α) (hno : ∀ j, j < l.length → p (l.getD j d) = false) : idxP p l = -1 := by
  have h : l.findIdx? p = none := by
    rw [List.findIdx?_eq_none_iff]
    intro x hx
    obtain ⟨j, hj, rfl⟩ := List.getElem_of_mem hx
    have := hno j hj
    simpa [hj] using this
  unfold idxP
  rw [h]
theorem idxP_any {α : Type} {p : α → Bool} {l : List α} : leB 0 (idxP p l) = l.any p := by
  unfold idxP
  cases h : l.findIdx? p with
  | none =>
    rw [List.findIdx?_eq_none_iff] at h
    have : l.any p = false := by rw [List.any_eq_false]; intro x hx; rw [h x hx]; simp
    rw [this]
    rfl
  | some i =>
    rw [List.findIdx?_eq_some_iff_getElem] at h
    obtain ⟨hi, hp, _⟩ := h
    have : l.any p = true := by rw [List.any_eq_true]; exact ⟨_, List.getElem_mem hi, hp⟩
    rw [this]
    simp [leB]
def isI (v : Int) (x : Int) : Bool := v == x
def Bl : Con := C0 (fun (l : Sl Int) (_ : Int) => l.l.length ≤ 9223372036854775807) (fun l v => idxP (isI v) l.l)
noncomputable def S3 : Ctx := ⟨tab, lkC [], 60, lkB [], [], false⟩
theorem En : S3.τ = tab := rfl
theorem Ep : S3.Γ = lkC [] := rfl
theorem Eo : S3.dp = 60 := rfl
theorem Er : S3.Δ = lkB [] := rfl
theorem Em : S3.cuts = [] := rfl
theorem El : S3.wr = false := rfl
set_option maxRecDepth 100000 in
theorem good_indexInt : M7 Try.prog (71, Bl) := by
  refine ⟨He Try.func71 (by kernel_rfl) rfl, ?_⟩
  have K : Nh Try.prog S3 := Hl Ny Ht (by simp) (by simp)
  obtain ⟨c, hc⟩ : ∃ c, Try.f71.body = some c := ⟨_, rfl⟩
  refine Hm K Try.func71 hc [.tmp 4] rfl 19 rfl (fun cvs hpre => ?_)
  change Bl.pre cvs at hpre
  unfold Bl at hpre
  obtain ⟨⟨l⟩, v, rfl, hl⟩ := Mp hpre
  simp only at hl
  simp only [Try.f71, Option.some.injEq] at hc
  subst hc
  (sym =>
   simp [Gt,Gv,Gx,Gu,szN,Gw,En,Ep,Eo,Er,Em,El,Bl.eq_def,Za,Zb,Zc,Ze,Zf,Zg,Zn,Zo,Zp,Zq,Zr,Zs,Zv,Zy,Z5,Qa,Qb,Qc,Qg,Qk,Ql,Qm,Qn,Qo,Qp,Qr,Q0,Q1,Q4,Q8,Ja,Jf,Jh,Ji,Jj,Jk,Jl,Jt,Jy,Jz,J0,J1,J2,J5,J6,Xj,Xk,Xl,Xm,Xn,Xo,Xp,Xq,Xr,Xs,Xt,Xu,Xv,Xy,X1,X2,X3,X4,X5,X6,X7,X8,We,Wf,Wg,Wh,Wi,Wj,Wl,Wm,Wn,Wo,Wp,Ws,Wt,Wu,Wv,Ww,Wx,Wy,Wz,W0,W3,W4,W5,W6,W7,W8,W9,Ya,Yb,Yc,Yd,Ye,Yf,Yg,Yh,Yi,Yj,Yk,Yl,Ym,Yn,Yo,Yu,Yv,Yw,Yx,Yy,Yz,Y1,Y2,Y3,Y4,Y5,Y6,Y7,Y8,Y9,Va,Vb,Vc,Vd,Ve,Vf,Vg,Vh,Vi,Vj,Vk,Vl,Vm,Vn,Vo,Vp,Vq,Vr,Vs,Vt,Vu,Vv,Vw,Vx,Vy,Vz,V0,V1,V2,V3,V4,V5,V6,V7,V8,V9,Ua,Ub,Uc,Ud,Ue,Uf,Ug,Uh,Ui,Uj,Uk,Ul,Um,Un,Uo,Up,Uq,Ur,Us,Ut,Uu,Uv,U1,U2,U5,U6,U7,U8,U9,Ka,Kb,Kc,Kd,Ke,Kf,Kg,Kh,Ki,Kj,Kk,Kl,Km,Kn,Ko,Kq,Kr,Ks,Kt,Ku,Kv,Kw,Kx,Ky,Kz,K0,K1,K2,K3,K4,K5,K6,K7,Gg,Gi,Gj,Gk,Gl,Gm,Gn,Gr,Hg,Mt]
   tactic =>
    try simp only [G6] at *
    try simp only [nc2] at *
    try simp (maxSteps := 4000000) only [Gt,Gv,Gx,Gu,szN,Gw,Hi]
    refine Ho [4, 5, 9, 10, 11, 12, 13, 14, 15, 16, 17, 18] (fun k : Nat => [(8, .d (.int .i64 k))]) (fun k : Nat => []) (fun k : Nat => k ≤ l.length ∧ ∀ j, j < k → isI v (l.getD j 0) = false) (fun k : Nat => l.length - k) 0 ?_ ?_ ?_
    · simp
    · ((try simp only [G3, Ha, G5, Hf, upd, Hh, Hn, Na, Nat.reduceDiv, Nat.reduceMod, Nat.reduceMul, Nat.reduceAdd, Nat.reduceEqDiff, List.set_cons_zero, List.set_cons_succ, if_true, if_false, reduceIte]); (first | refine Wk.of_fl ?_ | skip); simp only [Wk, wkK, Nd, wkT, wk1, AV.kept, keptAll, wkO, lk, G4, and_true, true_and, and_self, Nat.reduceEqDiff, Nat.reduceLeDiff, if_true, if_false, reduceIte, reduceCtorEq, Option.isSome, false_implies]; try simp [Wk, wkK, wkT, wk1, AV.kept, keptAll, wkO, lk, G4])
    rintro k ⟨hk, hno⟩
    rcases Hq k l.length with ⟨hlt, hlb⟩ | ⟨hlt, hlb⟩
    · have q1 := H7 (0 : Int) hlt
      cases hs : isI v (l.getD k 0) with
      | false =>
        have hs' : (v == l.getD k 0) = false := hs
        (sym =>
         simp [hlb,q1,hs',Gt,Gv,Gx,Gu,szN,Gw,En,Ep,Eo,Er,Em,El,Bl.eq_def,Za,Zb,Zc,Ze,Zf,Zg,Zn,Zo,Zp,Zq,Zr,Zs,Zv,Zy,Z5,Qa,Qb,Qc,Qg,Qk,Ql,Qm,Qn,Qo,Qp,Qr,Q0,Q1,Q4,Q8,Ja,Jf,Jh,Ji,Jj,Jk,Jl,Jt,Jy,Jz,J0,J1,J2,J5,J6,Xj,Xk,Xl,Xm,Xn,Xo,Xp,Xq,Xr,Xs,Xt,Xu,Xv,Xy,X1,X2,X3,X4,X5,X6,X7,X8,We,Wf,Wg,Wh,Wi,Wj,Wl,Wm,Wn,Wo,Wp,Ws,Wt,Wu,Wv,Ww,Wx,Wy,Wz,W0,W3,W4,W5,W6,W7,W8,W9,Ya,Yb,Yc,Yd,Ye,Yf,Yg,Yh,Yi,Yj,Yk,Yl,Ym,Yn,Yo,Yu,Yv,Yw,Yx,Yy,Yz,Y1,Y2,Y3,Y4,Y5,Y6,Y7,Y8,Y9,Va,Vb,Vc,Vd,Ve,Vf,Vg,Vh,Vi,Vj,Vk,Vl,Vm,Vn,Vo,Vp,Vq,Vr,Vs,Vt,Vu,Vv,Vw,Vx,Vy,Vz,V0,V1,V2,V3,V4,V5,V6,V7,V8,V9,Ua,Ub,Uc,Ud,Ue,Uf,Ug,Uh,Ui,Uj,Uk,Ul,Um,Un,Uo,Up,Uq,Ur,Us,Ut,Uu,Uv,U1,U2,U5,U6,U7,U8,U9,Ka,Kb,Kc,Kd,Ke,Kf,Kg,Kh,Ki,Kj,Kk,Kl,Km,Kn,Ko,Kq,Kr,Ks,Kt,Ku,Kv,Kw,Kx,Ky,Kz,K0,K1,K2,K3,K4,K5,K6,K7,Gg,Gi,Gj,Gk,Gl,Gm,Gn,Gr,Hg,Mt]
         tactic =>
          try simp only [G6] at *
          try simp only [nc2] at *
          try simp (maxSteps := 4000000) only [hlb,q1,hs',Gt,Gv,Gx,Gu,szN,Gw,Hi]
          repeat' (first | with_reducible assumption | with_reducible refine And.intro ?_ ?_ | intro _ | omega | (rw [Gy]; omega))
          refine ⟨k + 1, by ((try simp only [G3, Ha, G5, Hf, upd, Hh, Hn, Na, Nat.reduceDiv, Nat.reduceMod, Nat.reduceMul, Nat.reduceAdd, Nat.reduceEqDiff, List.set_cons_zero, List.set_cons_succ, if_true, if_false, reduceIte]); (first | refine Wk.of_fl ?_ | skip); simp only [Wk, wkK, Nd, wkT, wk1, AV.kept, keptAll, wkO, lk, G4, and_true, true_and, and_self, Nat.reduceEqDiff, Nat.reduceLeDiff, if_true, if_false, reduceIte, reduceCtorEq, Option.isSome, false_implies]; try simp [Wk, wkK, wkT, wk1, AV.kept, keptAll, wkO, lk, G4]), by omega, fun j hj => ?_, by omega⟩
          by_cases hjk : j = k
          · subst hjk; exact hs
          · exact hno j (by omega))
      | true =>
        have hs' : (v == l.getD k 0) = true := hs
        have hr := idxP_at 0 hlt hno hs
        (sym =>
         simp [hlb,q1,hs',hr,Gt,Gv,Gx,Gu,szN,Gw,En,Ep,Eo,Er,Em,El,Bl.eq_def,Za,Zb,Zc,Ze,Zf,Zg,Zn,Zo,Zp,Zq,Zr,Zs,Zv,Zy,Z5,Qa,Qb,Qc,Qg,Qk,Ql,Qm,Qn,Qo,Qp,Qr,Q0,Q1,Q4,Q8,Ja,Jf,Jh,Ji,Jj,Jk,Jl,Jt,Jy,Jz,J0,J1,J2,J5,J6,Xj,Xk,Xl,Xm,Xn,Xo,Xp,Xq,Xr,Xs,Xt,Xu,Xv,Xy,X1,X2,X3,X4,X5,X6,X7,X8,We,Wf,Wg,Wh,Wi,Wj,Wl,Wm,Wn,Wo,Wp,Ws,Wt,Wu,Wv,Ww,Wx,Wy,Wz,W0,W3,W4,W5,W6,W7,W8,W9,Ya,Yb,Yc,Yd,Ye,Yf,Yg,Yh,Yi,Yj,Yk,Yl,Ym,Yn,Yo,Yu,Yv,Yw,Yx,Yy,Yz,Y1,Y2,Y3,Y4,Y5,Y6,Y7,Y8,Y9,Va,Vb,Vc,Vd,Ve,Vf,Vg,Vh,Vi,Vj,Vk,Vl,Vm,Vn,Vo,Vp,Vq,Vr,Vs,Vt,Vu,Vv,Vw,Vx,Vy,Vz,V0,V1,V2,V3,V4,V5,V6,V7,V8,V9,Ua,Ub,Uc,Ud,Ue,Uf,Ug,Uh,Ui,Uj,Uk,Ul,Um,Un,Uo,Up,Uq,Ur,Us,Ut,Uu,Uv,U1,U2,U5,U6,U7,U8,U9,Ka,Kb,Kc,Kd,Ke,Kf,Kg,Kh,Ki,Kj,Kk,Kl,Km,Kn,Ko,Kq,Kr,Ks,Kt,Ku,Kv,Kw,Kx,Ky,Kz,K0,K1,K2,K3,K4,K5,K6,K7,Gg,Gi,Gj,Gk,Gl,Gm,Gn,Gr,Hg,Mt]
         tactic =>
          try simp only [G6] at *
          try simp only [nc2] at *
          try simp (maxSteps := 4000000) only [hlb,q1,hs',hr,Gt,Gv,Gx,Gu,szN,Gw,Hi]
          repeat' (first | with_reducible assumption | with_reducible refine And.intro ?_ ?_ | intro _ | omega | (rw [Gy]; omega)))
    · have hr := idxP_none (p := isI v) (l := l) 0 (fun j hj => hno j (by omega))
      (sym =>
       simp [hlb,hr,Gt,Gv,Gx,Gu,szN,Gw,En,Ep,Eo,Er,Em,El,Bl.eq_def,Za,Zb,Zc,Ze,Zf,Zg,Zn,Zo,Zp,Zq,Zr,Zs,Zv,Zy,Z5,Qa,Qb,Qc,Qg,Qk,Ql,Qm,Qn,Qo,Qp,Qr,Q0,Q1,Q4,Q8,Ja,Jf,Jh,Ji,Jj,Jk,Jl,Jt,Jy,Jz,J0,J1,J2,J5,J6,Xj,Xk,Xl,Xm,Xn,Xo,Xp,Xq,Xr,Xs,Xt,Xu,Xv,Xy,X1,X2,X3,X4,X5,X6,X7,X8,We,Wf,Wg,Wh,Wi,Wj,Wl,Wm,Wn,Wo,Wp,Ws,Wt,Wu,Wv,Ww,Wx,Wy,Wz,W0,W3,W4,W5,W6,W7,W8,W9,Ya,Yb,Yc,Yd,Ye,Yf,Yg,Yh,Yi,Yj,Yk,Yl,Ym,Yn,Yo,Yu,Yv,Yw,Yx,Yy,Yz,Y1,Y2,Y3,Y4,Y5,Y6,Y7,Y8,Y9,Va,Vb,Vc,Vd,Ve,Vf,Vg,Vh,Vi,Vj,Vk,Vl,Vm,Vn,Vo,Vp,Vq,Vr,Vs,Vt,Vu,Vv,Vw,Vx,Vy,Vz,V0,V1,V2,V3,V4,V5,V6,V7,V8,V9,Ua,Ub,Uc,Ud,Ue,Uf,Ug,Uh,Ui,Uj,Uk,Ul,Um,Un,Uo,Up,Uq,Ur,Us,Ut,Uu,Uv,U1,U2,U5,U6,U7,U8,U9,Ka,Kb,Kc,Kd,Ke,Kf,Kg,Kh,Ki,Kj,Kk,Kl,Km,Kn,Ko,Kq,Kr,Ks,Kt,Ku,Kv,Kw,Kx,Ky,Kz,K0,K1,K2,K3,K4,K5,K6,K7,Gg,Gi,Gj,Gk,Gl,Gm,Gn,Gr,Hg,Mt]))
def Bv : Con := C0 (fun (l : Sl Int) (_ : Int) => l.l.length ≤ 9223372036854775807) (fun l v => l.l.any (isI v))
noncomputable def Br : Ctx := ⟨tab, lkC [(71, Bl)], 60, lkB [], [], false⟩
theorem ctx_containsInt_t : Br.τ = tab := rfl
theorem ctx_containsInt_c : Br.Γ = lkC [(71, Bl)] := rfl
theorem ctx_containsInt_d : Br.dp = 60 := rfl
theorem ctx_containsInt_b : Br.Δ = lkB [] := rfl
theorem ctx_containsInt_u : Br.cuts = [] := rfl
theorem ctx_containsInt_w : Br.wr = false := rfl
set_option maxRecDepth 100000 in
theorem good_containsInt : M7 Try.prog (63, Bv) := by
  refine ⟨He Try.func63 (by kernel_rfl) rfl, ?_⟩
  have K : Nh Try.prog Br := Hl Ny Ht (by
    intro p hp
    simp only [List.mem_cons, List.not_mem_nil, or_false] at hp
    rcases hp with rfl
    · exact good_indexInt) (by simp)
  obtain ⟨c, hc⟩ : ∃ c, Try.f63.body = some c := ⟨_, rfl⟩
  refine Hm K Try.func63 hc [.tmp 4] rfl 9 rfl (fun cvs hpre => ?_)
  change Bv.pre cvs at hpre
  unfold Bv at hpre
  obtain ⟨⟨l⟩, v, rfl, hl⟩ := Mp hpre
  simp only at hl
  have h := idxP_any (p := isI v) (l := l)
  simp only [Try.f63, Option.some.injEq] at hc
  subst hc
  (sym =>
   simp [h,Gt,Gv,Gx,Gu,szN,Gw,ctx_containsInt_t,ctx_containsInt_c,ctx_containsInt_d,ctx_containsInt_b,ctx_containsInt_u,ctx_containsInt_w,Bv.eq_def,Bl.eq_def,Za,Zb,Zc,Ze,Zf,Zg,Zn,Zo,Zp,Zq,Zr,Zs,Zv,Z8,Z9,Qa,Qb,Qc,Qd,Qe,Qf,Qg,Qk,Qm,Qn,Qo,Qp,Qr,Q0,Q1,Q4,Q8,Q9,Ja,Jf,Jh,Ji,Jj,Jk,Jl,Jt,Jy,Jz,J5,J6,Xj,Xk,Xl,Xm,Xn,Xo,Xp,Xq,Xr,Xs,Xt,Xu,Xv,Xy,X1,X2,X3,X4,X5,X6,X7,X8,We,Wf,Wg,Wh,Wi,Wj,Wl,Wn,Wo,Wp,Ws,Wt,Wu,Wv,Ww,Wx,Wy,Wz,W0,W3,W4,W5,W6,W7,W8,W9,Ya,Yb,Yc,Yd,Ye,Yf,Yg,Yh,Yi,Yj,Yk,Yl,Ym,Yn,Yo,Yv,Yw,Yx,Yy,Yz,Y1,Y2,Y3,Y4,Y5,Y6,Y7,Y8,Y9,Va,Vb,Vc,Vd,Ve,Vf,Vg,Vh,Vi,Vj,Vk,Vl,Vm,Vn,Vo,Vp,Vq,Vr,Vs,Vt,Vu,Vv,Vw,Vx,Vy,Vz,V0,V1,V2,V3,V4,V5,V6,V7,V8,V9,Ua,Ub,Uc,Ud,Ue,Uf,Ug,Uh,Ui,Uj,Uk,Ul,Um,Un,Uo,Up,Uq,Ur,Us,Ut,Uu,Uv,U1,U2,U5,U6,U7,U8,U9,Ka,Kb,Kc,Kd,Ke,Kf,Kg,Kh,Ki,Kj,Kk,Kl,Km,Kn,Ko,Kq,Kr,Ks,Kt,Ku,Kv,Kw,Kx,Ky,Kz,K0,K1,K2,K3,K4,K5,K6,K7,Gg,Gi,Gj,Gk,Gl,Gm,Gn,Gr,Hg,Mt]
   tactic =>
    try simp only [G6] at *
    try simp only [nc2] at *
    try simp (maxSteps := 4000000) only [h,Gt,Gv,Gx,Gu,szN,Gw,Hi]
    repeat' (first | with_reducible assumption | with_reducible refine And.intro ?_ ?_ | intro _ | omega | (rw [Gy]; omega)))
structure PI where
  l : List Int
instance encPI : Enc PI := ⟨fun p => .ptr 1 (.list 1 (p.l.map enc)), fun x => match x with
  | .ptr _ y => ⟨y.l.map dec⟩
  | _ => ⟨[]⟩, fun p => by
    have h : ∀ l : List Int, (l.map (enc : Int → D)).map dec = l := fun l => Pz
    obtain ⟨l⟩ := p
    simp [D.l,h]⟩
theorem enc_PI {l : List Int} : (enc (PI.mk l) : D) = .ptr 1 (.list 1 (l.map enc)) := rfl
theorem PI_l {l : List Int} : (PI.mk l).l = l := rfl
theorem dec_PI {l : List Int} : (dec (.ptr 1 (.list 1 (l.map enc))) : PI) = ⟨l⟩ := Enc.dec_enc (PI.mk l)
theorem isE_PI {l : List Int} : isE PI (.ptr 1 (.list 1 (l.map enc))) = True := eq_true (B0 (PI.mk l))
structure NoneF where
  l : List Int
instance encNoneF : Enc NoneF := ⟨fun p => .clo 62 [.ptr 1 (.list 1 (p.l.map enc))], fun x => match x with
  | .clo _ [.ptr _ y] => ⟨y.l.map dec⟩
  | _ => ⟨[]⟩, fun p => by
    have h : ∀ l : List Int, (l.map (enc : Int → D)).map dec = l := fun l => Pz
    obtain ⟨l⟩ := p
    simp [D.l,h]⟩
theorem D8 {l : List Int} : (enc (NoneF.mk l) : D) = .clo 62 [.ptr 1 (.list 1 (l.map enc))] := rfl
theorem NoneF_l {l : List Int} : (NoneF.mk l).l = l := rfl
theorem O7 {l : List Int} : (dec (.clo 62 [.ptr 1 (.list 1 (l.map enc))]) : NoneF) = ⟨l⟩ := Enc.dec_enc (NoneF.mk l)
theorem isE_NoneF {l : List Int} : isE NoneF (.clo 62 [.ptr 1 (.list 1 (l.map enc))]) = True := eq_true (B0 (NoneF.mk l))
theorem dec_NoneS {l : List Int} : (dec (.clo 62 [.ptr 1 (enc (Sl.mk l))]) : NoneF) = ⟨l⟩ := Enc.dec_enc (NoneF.mk l)
theorem isE_NoneS {l : List Int} : isE NoneF (.clo 62 [.ptr 1 (enc (Sl.mk l))]) = True := eq_true (B0 (NoneF.mk l))
def E2 (l : List Int) (n : Node) : Bool := l.any (isI n.kind)
def Tm : Con := C0 (fun (_ : Node) (p : PI) => p.l.length ≤ 1000000) (fun n p => E2 p.l n)
noncomputable def E8 : Ctx := ⟨tab, lkC [(63, Bv)], 60, lkB [], [], false⟩
theorem ctx_noneN_t : E8.τ = tab := rfl
theorem ctx_noneN_c : E8.Γ = lkC [(63, Bv)] := rfl
theorem ctx_noneN_d : E8.dp = 60 := rfl
theorem ctx_noneN_b : E8.Δ = lkB [] := rfl
theorem ctx_noneN_u : E8.cuts = [] := rfl
theorem ctx_noneN_w : E8.wr = false := rfl
set_option maxRecDepth 100000 in
theorem good_noneN : M7 Try.prog (62, Tm) := by
  refine ⟨He Try.func62 (by kernel_rfl) rfl, ?_⟩
  have K : Nh Try.prog E8 := Hl Ny Ht (by
    intro p hp
    simp only [List.mem_cons, List.not_mem_nil, or_false] at hp
    rcases hp with rfl
    · exact good_containsInt) (by simp)
  obtain ⟨c, hc⟩ : ∃ c, Try.f62.body = some c := ⟨_, rfl⟩
  refine Hm K Try.func62 hc [.tmp 3] rfl 8 rfl (fun cvs hpre => ?_)
  change Tm.pre cvs at hpre
  unfold Tm at hpre
  obtain ⟨n, ⟨l⟩, rfl, hl⟩ := Mp hpre
  simp only at hl
  have hf : E2 l n = l.any (isI n.kind) := rfl
  simp only [Try.f62, Option.some.injEq] at hc
  subst hc
  (sym =>
   simp [enc_PI,dec_PI,PI_l,hf,Gt,Gv,Gx,Gu,szN,Gw,ctx_noneN_t,ctx_noneN_c,ctx_noneN_d,ctx_noneN_b,ctx_noneN_u,ctx_noneN_w,Bv.eq_def,Tm.eq_def,Za,Zb,Zc,Ze,Zf,Zg,Zn,Zo,Zp,Zq,Zr,Zs,Zu,Zv,Zx,Z8,Z9,Qa,Qb,Qc,Qd,Qe,Qf,Qg,Qk,Ql,Qm,Qn,Qo,Qp,Qr,Q0,Q1,Q4,Q8,Q9,Ja,Jf,Jh,Ji,Jj,Jk,Jl,Jt,Jy,Jz,J5,J6,Xj,Xk,Xl,Xm,Xn,Xo,Xp,Xq,Xr,Xs,Xt,Xu,Xv,Xy,X1,X2,X3,X4,X5,X6,X7,X8,We,Wf,Wg,Wh,Wi,Wj,Wl,Wn,Wo,Wp,Ws,Wt,Wu,Wv,Ww,Wx,Wy,Wz,W0,W3,W4,W5,W6,W7,W8,W9,Ya,Yb,Yc,Yd,Ye,Yf,Yg,Yh,Yi,Yj,Yk,Yl,Ym,Yn,Yo,Yv,Yw,Yx,Yy,Yz,Y1,Y2,Y3,Y4,Y5,Y6,Y7,Y8,Y9,Va,Vb,Vc,Vd,Ve,Vf,Vg,Vh,Vi,Vj,Vk,Vl,Vm,Vn,Vo,Vp,Vq,Vr,Vs,Vt,Vu,Vv,Vw,Vx,Vy,Vz,V0,V1,V2,V3,V4,V5,V6,V7,V8,V9,Ua,Ub,Uc,Ud,Ue,Uf,Ug,Uh,Ui,Uj,Uk,Ul,Um,Un,Uo,Up,Uq,Ur,Us,Ut,Uu,Uv,U1,U2,U5,U6,U7,U8,U9,Ka,Kb,Kc,Kd,Ke,Kf,Kg,Kh,Ki,Kj,Kk,Kl,Km,Kn,Ko,Kq,Kr,Ks,Kt,Ku,Kv,Kw,Kx,Ky,Kz,K0,K1,K2,K3,K4,K5,K6,K7,Gg,Gi,Gj,Gk,Gl,Gm,Gn,Gr,Hg,Hb,Mt]
   tactic =>
    try simp only [G6] at *
    try simp only [nc2] at *
    try simp (maxSteps := 4000000) only [enc_PI,dec_PI,PI_l,hf,Gt,Gv,Gx,Gu,szN,Gw,Hi]
    repeat' (first | with_reducible assumption | with_reducible refine And.intro ?_ ?_ | intro _ | omega | (rw [Gy]; omega)))
def Px : Con := C0 (fun (l : Sl Node) (f : NoneF) => l.l.length ≤ 9223372036854775807 ∧ f.l.length ≤ 1000000) (fun l f => idxP (E2 f.l) l.l)
noncomputable def Sb : Ctx := ⟨tab, lkC [(62, Tm)], 60, lkB [], [], false⟩
theorem Da : Sb.τ = tab := rfl
theorem Dc : Sb.Γ = lkC [(62, Tm)] := rfl
theorem Db : Sb.dp = 60 := rfl
theorem Dd : Sb.Δ = lkB [] := rfl
theorem C9 : Sb.cuts = [] := rfl
theorem C8 : Sb.wr = false := rfl
set_option maxRecDepth 100000 in
theorem good_indexNode : M7 Try.prog (70, Px) := by
  refine ⟨He Try.func70 (by kernel_rfl) rfl, ?_⟩
  have K : Nh Try.prog Sb := Hl Ny Ht (by
    intro p hp
    simp only [List.mem_cons, List.not_mem_nil, or_false] at hp
    rcases hp with rfl
    · exact good_noneN) (by simp)
  obtain ⟨c, hc⟩ : ∃ c, Try.f70.body = some c := ⟨_, rfl⟩
  refine Hm K Try.func70 hc [.tmp 4] rfl 19 rfl (fun cvs hpre => ?_)
  change Px.pre cvs at hpre
  unfold Px at hpre
  obtain ⟨⟨l⟩, ⟨v⟩, rfl, hl, hv⟩ := Mp hpre
  simp only at hl hv
  simp only [Try.f70, Option.some.injEq] at hc
  subst hc
  (sym =>
   simp [D8,Gt,Gv,Gx,Gu,szN,Gw,Da,Dc,Db,Dd,C9,C8,Px.eq_def,Tm.eq_def,Za,Zb,Zc,Ze,Zf,Zg,Zn,Zo,Zp,Zq,Zr,Zs,Zv,Zy,Z5,Z8,Z9,Qa,Qb,Qc,Qd,Qe,Qf,Qg,Qk,Ql,Qm,Qn,Qo,Qp,Qr,Q0,Q1,Q4,Q8,Q9,Ja,Jf,Jh,Ji,Jj,Jk,Jl,Jt,Jy,Jz,J0,J1,J2,J5,J6,Xj,Xk,Xl,Xm,Xn,Xo,Xp,Xq,Xr,Xs,Xt,Xu,Xv,Xy,X1,X2,X3,X4,X5,X6,X7,X8,We,Wf,Wg,Wh,Wi,Wj,Wl,Wm,Wn,Wo,Wp,Ws,Wt,Wu,Wv,Ww,Wx,Wy,Wz,W0,W3,W4,W5,W6,W7,W8,W9,Ya,Yb,Yc,Yd,Ye,Yf,Yg,Yh,Yi,Yj,Yk,Yl,Ym,Yn,Yo,Yu,Yv,Yw,Yx,Yy,Yz,Y1,Y2,Y3,Y4,Y5,Y6,Y7,Y8,Y9,Va,Vb,Vc,Vd,Ve,Vf,Vg,Vh,Vi,Vj,Vk,Vl,Vm,Vn,Vo,Vp,Vq,Vr,Vs,Vt,Vu,Vv,Vw,Vx,Vy,Vz,V0,V1,V2,V3,V4,V5,V6,V7,V8,V9,Ua,Ub,Uc,Ud,Ue,Uf,Ug,Uh,Ui,Uj,Uk,Ul,Um,Un,Uo,Up,Uq,Ur,Us,Ut,Uu,Uv,U1,U2,U5,U6,U7,U8,U9,Ka,Kb,Kc,Kd,Ke,Kf,Kg,Kh,Ki,Kj,Kk,Kl,Km,Kn,Ko,Kq,Kr,Ks,Kt,Ku,Kv,Kw,Kx,Ky,Kz,K0,K1,K2,K3,K4,K5,K6,K7,Gg,Gi,Gj,Gk,Gl,Gm,Gn,Gr,Hg,Hc,Hb,tab48]
   tactic =>
    try simp only [G6] at *
    try simp only [nc2] at *
    try simp (maxSteps := 4000000) only [D8,Gt,Gv,Gx,Gu,szN,Gw,Hi]
    refine Ho [4, 5, 9, 10, 11, 12, 13, 14, 15, 16, 17, 18] (fun k : Nat => [(8, .d (.int .i64 k))]) (fun k : Nat => []) (fun k : Nat => k ≤ l.length ∧ ∀ j, j < k → E2 v (l.getD j ⟨0, [], 0⟩) = false) (fun k : Nat => l.length - k) 0 ?_ ?_ ?_
    · simp
    · ((try simp only [G3, Ha, G5, Hf, upd, Hh, Hn, Na, Nat.reduceDiv, Nat.reduceMod, Nat.reduceMul, Nat.reduceAdd, Nat.reduceEqDiff, List.set_cons_zero, List.set_cons_succ, if_true, if_false, reduceIte]); (first | refine Wk.of_fl ?_ | skip); simp only [Wk, wkK, Nd, wkT, wk1, AV.kept, keptAll, wkO, lk, G4, and_true, true_and, and_self, Nat.reduceEqDiff, Nat.reduceLeDiff, if_true, if_false, reduceIte, reduceCtorEq, Option.isSome, false_implies]; try simp [Wk, wkK, wkT, wk1, AV.kept, keptAll, wkO, lk, G4])
    rintro k ⟨hk, hno⟩
    rcases Hq k l.length with ⟨hlt, hlb⟩ | ⟨hlt, hlb⟩
    · have q1 := H7 (⟨0, [], 0⟩ : Node) hlt
      cases hs : E2 v (l.getD k ⟨0, [], 0⟩) with
      | false =>
        (sym =>
         simp [hlb,q1,hs,D8,dec_PI,isE_PI,PI_l,Gt,Gv,Gx,Gu,szN,Gw,Da,Dc,Db,Dd,C9,C8,Px.eq_def,Tm.eq_def,Za,Zb,Zc,Ze,Zf,Zg,Zn,Zo,Zp,Zq,Zr,Zs,Zv,Zy,Z5,Z8,Z9,Qa,Qb,Qc,Qd,Qe,Qf,Qg,Qk,Ql,Qm,Qn,Qo,Qp,Qr,Q0,Q1,Q4,Q8,Q9,Ja,Jf,Jh,Ji,Jj,Jk,Jl,Jt,Jy,Jz,J0,J1,J2,J5,J6,Xj,Xk,Xl,Xm,Xn,Xo,Xp,Xq,Xr,Xs,Xt,Xu,Xv,Xy,X1,X2,X3,X4,X5,X6,X7,X8,We,Wf,Wg,Wh,Wi,Wj,Wl,Wm,Wn,Wo,Wp,Ws,Wt,Wu,Wv,Ww,Wx,Wy,Wz,W0,W3,W4,W5,W6,W7,W8,W9,Ya,Yb,Yc,Yd,Ye,Yf,Yg,Yh,Yi,Yj,Yk,Yl,Ym,Yn,Yo,Yu,Yv,Yw,Yx,Yy,Yz,Y1,Y2,Y3,Y4,Y5,Y6,Y7,Y8,Y9,Va,Vb,Vc,Vd,Ve,Vf,Vg,Vh,Vi,Vj,Vk,Vl,Vm,Vn,Vo,Vp,Vq,Vr,Vs,Vt,Vu,Vv,Vw,Vx,Vy,Vz,V0,V1,V2,V3,V4,V5,V6,V7,V8,V9,Ua,Ub,Uc,Ud,Ue,Uf,Ug,Uh,Ui,Uj,Uk,Ul,Um,Un,Uo,Up,Uq,Ur,Us,Ut,Uu,Uv,U1,U2,U5,U6,U7,U8,U9,Ka,Kb,Kc,Kd,Ke,Kf,Kg,Kh,Ki,Kj,Kk,Kl,Km,Kn,Ko,Kq,Kr,Ks,Kt,Ku,Kv,Kw,Kx,Ky,Kz,K0,K1,K2,K3,K4,K5,K6,K7,Gg,Gi,Gj,Gk,Gl,Gm,Gn,Gr,Hg,Hc,Hb,tab48]
         tactic =>
          try simp only [G6] at *
          try simp only [nc2] at *
          try simp (maxSteps := 4000000) only [hlb,q1,hs,D8,dec_PI,isE_PI,PI_l,Gt,Gv,Gx,Gu,szN,Gw,Hi]
          repeat' (first | with_reducible assumption | with_reducible refine And.intro ?_ ?_ | intro _ | omega | (rw [Gy]; omega))
          refine ⟨k + 1, by ((try simp only [G3, Ha, G5, Hf, upd, Hh, Hn, Na, Nat.reduceDiv, Nat.reduceMod, Nat.reduceMul, Nat.reduceAdd, Nat.reduceEqDiff, List.set_cons_zero, List.set_cons_succ, if_true, if_false, reduceIte]); (first | refine Wk.of_fl ?_ | skip); simp only [Wk, wkK, Nd, wkT, wk1, AV.kept, keptAll, wkO, lk, G4, and_true, true_and, and_self, Nat.reduceEqDiff, Nat.reduceLeDiff, if_true, if_false, reduceIte, reduceCtorEq, Option.isSome, false_implies]; try simp [Wk, wkK, wkT, wk1, AV.kept, keptAll, wkO, lk, G4]), by omega, fun j hj => ?_, by omega⟩
          by_cases hjk : j = k
          · subst hjk; exact hs
          · exact hno j (by omega))
      | true =>
        have hr := idxP_at ⟨0, [], 0⟩ hlt hno hs
        (sym =>
         simp [hlb,q1,hs,hr,D8,O7,dec_PI,isE_PI,PI_l,NoneF_l,Gt,Gv,Gx,Gu,szN,Gw,Da,Dc,Db,Dd,C9,C8,Px.eq_def,Tm.eq_def,Za,Zb,Zc,Ze,Zf,Zg,Zn,Zo,Zp,Zq,Zr,Zs,Zv,Zy,Z5,Z8,Z9,Qa,Qb,Qc,Qd,Qe,Qf,Qg,Qk,Ql,Qm,Qn,Qo,Qp,Qr,Q0,Q1,Q4,Q8,Q9,Ja,Jf,Jh,Ji,Jj,Jk,Jl,Jt,Jy,Jz,J0,J1,J2,J5,J6,Xj,Xk,Xl,Xm,Xn,Xo,Xp,Xq,Xr,Xs,Xt,Xu,Xv,Xy,X1,X2,X3,X4,X5,X6,X7,X8,We,Wf,Wg,Wh,Wi,Wj,Wl,Wm,Wn,Wo,Wp,Ws,Wt,Wu,Wv,Ww,Wx,Wy,Wz,W0,W3,W4,W5,W6,W7,W8,W9,Ya,Yb,Yc,Yd,Ye,Yf,Yg,Yh,Yi,Yj,Yk,Yl,Ym,Yn,Yo,Yu,Yv,Yw,Yx,Yy,Yz,Y1,Y2,Y3,Y4,Y5,Y6,Y7,Y8,Y9,Va,Vb,Vc,Vd,Ve,Vf,Vg,Vh,Vi,Vj,Vk,Vl,Vm,Vn,Vo,Vp,Vq,Vr,Vs,Vt,Vu,Vv,Vw,Vx,Vy,Vz,V0,V1,V2,V3,V4,V5,V6,V7,V8,V9,Ua,Ub,Uc,Ud,Ue,Uf,Ug,Uh,Ui,Uj,Uk,Ul,Um,Un,Uo,Up,Uq,Ur,Us,Ut,Uu,Uv,U1,U2,U5,U6,U7,U8,U9,Ka,Kb,Kc,Kd,Ke,Kf,Kg,Kh,Ki,Kj,Kk,Kl,Km,Kn,Ko,Kq,Kr,Ks,Kt,Ku,Kv,Kw,Kx,Ky,Kz,K0,K1,K2,K3,K4,K5,K6,K7,Gg,Gi,Gj,Gk,Gl,Gm,Gn,Gr,Hg,Hc,Hb,tab48]
         tactic =>
          try simp only [G6] at *
          try simp only [nc2] at *
          try simp (maxSteps := 4000000) only [hlb,q1,hs,hr,D8,O7,dec_PI,isE_PI,PI_l,NoneF_l,Gt,Gv,Gx,Gu,szN,Gw,Hi]
          repeat' (first | with_reducible assumption | with_reducible refine And.intro ?_ ?_ | intro _ | omega | (rw [Gy]; omega)))
    · have hr := idxP_none (p := E2 v) (l := l) ⟨0, [], 0⟩ (fun j hj => hno j (by omega))
      (sym =>
       simp [hlb,hr,O7,NoneF_l,Gt,Gv,Gx,Gu,szN,Gw,Da,Dc,Db,Dd,C9,C8,Px.eq_def,Tm.eq_def,Za,Zb,Zc,Ze,Zf,Zg,Zn,Zo,Zp,Zq,Zr,Zs,Zv,Zy,Z5,Z8,Z9,Qa,Qb,Qc,Qd,Qe,Qf,Qg,Qk,Ql,Qm,Qn,Qo,Qp,Qr,Q0,Q1,Q4,Q8,Q9,Ja,Jf,Jh,Ji,Jj,Jk,Jl,Jt,Jy,Jz,J0,J1,J2,J5,J6,Xj,Xk,Xl,Xm,Xn,Xo,Xp,Xq,Xr,Xs,Xt,Xu,Xv,Xy,X1,X2,X3,X4,X5,X6,X7,X8,We,Wf,Wg,Wh,Wi,Wj,Wl,Wm,Wn,Wo,Wp,Ws,Wt,Wu,Wv,Ww,Wx,Wy,Wz,W0,W3,W4,W5,W6,W7,W8,W9,Ya,Yb,Yc,Yd,Ye,Yf,Yg,Yh,Yi,Yj,Yk,Yl,Ym,Yn,Yo,Yu,Yv,Yw,Yx,Yy,Yz,Y1,Y2,Y3,Y4,Y5,Y6,Y7,Y8,Y9,Va,Vb,Vc,Vd,Ve,Vf,Vg,Vh,Vi,Vj,Vk,Vl,Vm,Vn,Vo,Vp,Vq,Vr,Vs,Vt,Vu,Vv,Vw,Vx,Vy,Vz,V0,V1,V2,V3,V4,V5,V6,V7,V8,V9,Ua,Ub,Uc,Ud,Ue,Uf,Ug,Uh,Ui,Uj,Uk,Ul,Um,Un,Uo,Up,Uq,Ur,Us,Ut,Uu,Uv,U1,U2,U5,U6,U7,U8,U9,Ka,Kb,Kc,Kd,Ke,Kf,Kg,Kh,Ki,Kj,Kk,Kl,Km,Kn,Ko,Kq,Kr,Ks,Kt,Ku,Kv,Kw,Kx,Ky,Kz,K0,K1,K2,K3,K4,K5,K6,K7,Gg,Gi,Gj,Gk,Gl,Gm,Gn,Gr,Hg,Hc,Hb,tab48]))
def Bi : Con := C0 (fun (l : Sl Node) (f : NoneF) => l.l.length ≤ 9223372036854775807 ∧ f.l.length ≤ 1000000) (fun l f => l.l.any (E2 f.l))
noncomputable def Bf : Ctx := ⟨tab, lkC [(70, Px)], 60, lkB [], [], false⟩
theorem ctx_containsNode_t : Bf.τ = tab := rfl
theorem ctx_containsNode_c : Bf.Γ = lkC [(70, Px)] := rfl
theorem ctx_containsNode_d : Bf.dp = 60 := rfl
theorem ctx_containsNode_b : Bf.Δ = lkB [] := rfl
theorem ctx_containsNode_u : Bf.cuts = [] := rfl
theorem ctx_containsNode_w : Bf.wr = false := rfl
set_option maxRecDepth 100000 in
theorem good_containsNode : M7 Try.prog (61, Bi) := by
  refine ⟨He Try.func61 (by kernel_rfl) rfl, ?_⟩
  have K : Nh Try.prog Bf := Hl Ny Ht (by
    intro p hp
    simp only [List.mem_cons, List.not_mem_nil, or_false] at hp
    rcases hp with rfl
    · exact good_indexNode) (by simp)
  obtain ⟨c, hc⟩ : ∃ c, Try.f61.body = some c := ⟨_, rfl⟩
  refine Hm K Try.func61 hc [.tmp 4] rfl 9 rfl (fun cvs hpre => ?_)
  change Bi.pre cvs at hpre
  unfold Bi at hpre
  obtain ⟨⟨l⟩, ⟨v⟩, rfl, hl, hv⟩ := Mp hpre
  simp only at hl hv
  have h := idxP_any (p := E2 v) (l := l)
  simp only [Try.f61, Option.some.injEq] at hc
  subst hc
  (sym =>
   simp [h,D8,O7,isE_NoneF,NoneF_l,Gt,Gv,Gx,Gu,szN,Gw,ctx_containsNode_t,ctx_containsNode_c,ctx_containsNode_d,ctx_containsNode_b,ctx_containsNode_u,ctx_containsNode_w,Bi.eq_def,Px.eq_def,Za,Zb,Zc,Ze,Zf,Zg,Zn,Zo,Zp,Zq,Zr,Zs,Zv,Z8,Z9,Qa,Qb,Qc,Qd,Qe,Qf,Qg,Qk,Qm,Qn,Qo,Qp,Qr,Q0,Q1,Q4,Q8,Q9,Ja,Jf,Jh,Ji,Jj,Jk,Jl,Jt,Jy,Jz,J5,J6,Xj,Xk,Xl,Xm,Xn,Xo,Xp,Xq,Xr,Xs,Xt,Xu,Xv,Xy,X1,X2,X3,X4,X5,X6,X7,X8,We,Wf,Wg,Wh,Wi,Wj,Wl,Wn,Wo,Wp,Ws,Wt,Wu,Wv,Ww,Wx,Wy,Wz,W0,W3,W4,W5,W6,W7,W8,W9,Ya,Yb,Yc,Yd,Ye,Yf,Yg,Yh,Yi,Yj,Yk,Yl,Ym,Yn,Yo,Yv,Yw,Yx,Yy,Yz,Y1,Y2,Y3,Y4,Y5,Y6,Y7,Y8,Y9,Va,Vb,Vc,Vd,Ve,Vf,Vg,Vh,Vi,Vj,Vk,Vl,Vm,Vn,Vo,Vp,Vq,Vr,Vs,Vt,Vu,Vv,Vw,Vx,Vy,Vz,V0,V1,V2,V3,V4,V5,V6,V7,V8,V9,Ua,Ub,Uc,Ud,Ue,Uf,Ug,Uh,Ui,Uj,Uk,Ul,Um,Un,Uo,Up,Uq,Ur,Us,Ut,Uu,Uv,U1,U2,U5,U6,U7,U8,U9,Ka,Kb,Kc,Kd,Ke,Kf,Kg,Kh,Ki,Kj,Kk,Kl,Km,Kn,Ko,Kq,Kr,Ks,Kt,Ku,Kv,Kw,Kx,Ky,Kz,K0,K1,K2,K3,K4,K5,K6,K7,Gg,Gi,Gj,Gk,Gl,Gm,Gn,Gr,Hg,Hc,Hb,tab48]
   tactic =>
    try simp only [G6] at *
    try simp only [nc2] at *
    try simp (maxSteps := 4000000) only [h,D8,O7,isE_NoneF,NoneF_l,Gt,Gv,Gx,Gu,szN,Gw,Hi]
    repeat' (first | with_reducible assumption | with_reducible refine And.intro ?_ ?_ | intro _ | omega | (rw [Gy]; omega)))
def Tl : Con := C0 (fun (l : Sl Node) (f : Sl Int) => l.l.length ≤ 9223372036854775807 ∧ f.l.length ≤ 1000000) (fun l f => !l.l.any (E2 f.l))
noncomputable def E7 : Ctx := ⟨tab, lkC [(61, Bi)], 60, lkB [], [], false⟩
theorem ctx_noneT_t : E7.τ = tab := rfl
theorem ctx_noneT_c : E7.Γ = lkC [(61, Bi)] := rfl
theorem ctx_noneT_d : E7.dp = 60 := rfl
theorem ctx_noneT_b : E7.Δ = lkB [] := rfl
theorem ctx_noneT_u : E7.cuts = [] := rfl
theorem ctx_noneT_w : E7.wr = false := rfl
set_option maxRecDepth 100000 in
theorem good_noneT : M7 Try.prog (45, Tl) := by
  refine ⟨He Try.func45 (by kernel_rfl) rfl, ?_⟩
  have K : Nh Try.prog E7 := Hl Ny Ht (by
    intro p hp
    simp only [List.mem_cons, List.not_mem_nil, or_false] at hp
    rcases hp with rfl
    · exact good_containsNode) (by simp)
  obtain ⟨c, hc⟩ : ∃ c, Try.f45.body = some c := ⟨_, rfl⟩
  refine Hm K Try.func45 hc [.tmp 4] rfl 9 rfl (fun cvs hpre => ?_)
  change Tl.pre cvs at hpre
  unfold Tl at hpre
  obtain ⟨⟨l⟩, ⟨v⟩, rfl, hl, hv⟩ := Mp hpre
  simp only at hl hv
  simp only [Try.f45, Option.some.injEq] at hc
  subst hc
  (sym =>
   simp [dec_NoneS,isE_NoneS,NoneF_l,Gt,Gv,Gx,Gu,szN,Gw,ctx_noneT_t,ctx_noneT_c,ctx_noneT_d,ctx_noneT_b,ctx_noneT_u,ctx_noneT_w,Bi.eq_def,Tl.eq_def,Za,Zb,Zc,Ze,Zf,Zg,Zn,Zo,Zp,Zq,Zr,Zs,Zu,Zv,Z8,Z9,Qa,Qb,Qc,Qd,Qe,Qf,Qg,Qh,Qk,Qm,Qn,Qo,Qp,Qr,Q0,Q1,Q4,Q8,Q9,Ja,Jf,Jh,Ji,Jj,Jk,Jl,Jt,Jy,Jz,J5,J6,Xj,Xk,Xl,Xm,Xn,Xo,Xp,Xq,Xr,Xs,Xt,Xu,Xv,Xy,X1,X2,X3,X4,X5,X6,X7,X8,We,Wf,Wg,Wh,Wi,Wj,Wl,Wn,Wo,Wp,Ws,Wt,Wu,Wv,Ww,Wx,Wy,Wz,W0,W3,W4,W5,W6,W7,W8,W9,Ya,Yb,Yc,Yd,Ye,Yf,Yg,Yh,Yi,Yj,Yk,Yl,Ym,Yn,Yo,Yv,Yw,Yx,Yy,Yz,Y1,Y2,Y3,Y4,Y5,Y6,Y7,Y8,Y9,Va,Vb,Vc,Vd,Ve,Vf,Vg,Vh,Vi,Vj,Vk,Vl,Vm,Vn,Vo,Vp,Vq,Vr,Vs,Vt,Vu,Vv,Vw,Vx,Vy,Vz,V0,V1,V2,V3,V4,V5,V6,V7,V8,V9,Ua,Ub,Uc,Ud,Ue,Uf,Ug,Uh,Ui,Uj,Uk,Ul,Um,Un,Uo,Up,Uq,Ur,Us,Ut,Uu,Uv,U1,U2,U5,U6,U7,U8,U9,Ka,Kb,Kc,Kd,Ke,Kf,Kg,Kh,Ki,Kj,Kk,Kl,Km,Kn,Ko,Kq,Kr,Ks,Kt,Ku,Kv,Kw,Kx,Ky,Kz,K0,K1,K2,K3,K4,K5,K6,K7,Gg,Gi,Gj,Gk,Gl,Gm,Gn,Gr,Hg,Nf,Hc,Hb,Mt]
   tactic =>
    try simp only [G6] at *
    try simp only [nc2] at *
    try simp (maxSteps := 4000000) only [dec_NoneS,isE_NoneS,NoneF_l,Gt,Gv,Gx,Gu,szN,Gw,Hi]
    repeat' (first | with_reducible assumption | with_reducible refine And.intro ?_ ?_ | intro _ | omega | (rw [Gy]; omega)))
theorem plain_none (t : List Node) : (!t.any (E2 [8, 9])) = Dg t := by
  unfold Dg
  rw [List.not_any_eq_all_not]
  congr 1
  funext n
  simp [E2,isI,bne]
def Te : Con := Sn (fun (t : Sl Node) => t.l.length ≤ 9223372036854775807) (fun t => Dg t.l)
noncomputable def Dv : Ctx := ⟨tab, lkC [(45, Tl)], 60, lkB [], [], false⟩
theorem ctx_PlainT_t : Dv.τ = tab := rfl
theorem ctx_PlainT_c : Dv.Γ = lkC [(45, Tl)] := rfl
theorem ctx_PlainT_d : Dv.dp = 60 := rfl
theorem ctx_PlainT_b : Dv.Δ = lkB [] := rfl
theorem ctx_PlainT_u : Dv.cuts = [] := rfl
theorem ctx_PlainT_w : Dv.wr = false := rfl
set_option maxRecDepth 100000 in
theorem good_PlainT : M7 Try.prog (24, Te) := by
  refine ⟨He Try.func24 (by kernel_rfl) rfl, ?_⟩
  have K : Nh Try.prog Dv := Hl Ny Ht (by
    intro p hp
    simp only [List.mem_cons, List.not_mem_nil, or_false] at hp
    rcases hp with rfl
    · exact good_noneT) (by simp)
  obtain ⟨c, hc⟩ : ∃ c, Try.f24.body = some c := ⟨_, rfl⟩
  refine Hm K Try.func24 hc [.tmp 2] rfl 6 rfl (fun cvs hpre => ?_)
  change Te.pre cvs at hpre
  unfold Te at hpre
  obtain ⟨⟨t⟩, rfl, ht⟩ := Nw hpre
  simp only at ht
  have h := plain_none t
  simp only [Try.f24, Option.some.injEq] at hc
  subst hc
  (sym =>
   simp [h,Gt,Gv,Gx,Gu,szN,Gw,ctx_PlainT_t,ctx_PlainT_c,ctx_PlainT_d,ctx_PlainT_b,ctx_PlainT_u,ctx_PlainT_w,Te.eq_def,Tl.eq_def,Za,Zb,Zc,Ze,Zf,Zg,Zn,Zo,Zp,Zq,Zr,Zs,Zv,Z1,Z8,Z9,Qa,Qb,Qc,Qd,Qe,Qf,Qg,Qk,Qm,Qn,Qo,Qp,Qr,Q0,Q1,Q4,Q8,Q9,Ja,Jb,Jc,Jd,Je,Jf,Jg,Jh,Ji,Jj,Jk,Jl,Jt,Jy,Jz,J5,J6,Xh,Xi,Xj,Xk,Xl,Xm,Xn,Xo,Xp,Xq,Xr,Xs,Xt,Xu,Xv,Xy,X1,X2,X3,X4,X5,X6,X7,X8,We,Wf,Wg,Wh,Wi,Wj,Wl,Wn,Wo,Wp,Ws,Wt,Wu,Wv,Ww,Wx,Wy,Wz,W0,W3,W4,W5,W6,W7,W8,W9,Ya,Yb,Yc,Yd,Ye,Yf,Yg,Yh,Yi,Yj,Yk,Yl,Ym,Yn,Yo,Yv,Yw,Yx,Yy,Yz,Y1,Y2,Y3,Y4,Y5,Y6,Y7,Y8,Y9,Va,Vb,Vc,Vd,Ve,Vf,Vg,Vh,Vi,Vj,Vk,Vl,Vm,Vn,Vo,Vp,Vq,Vr,Vs,Vt,Vu,Vv,Vw,Vx,Vy,Vz,V0,V1,V2,V3,V4,V5,V6,V7,V8,V9,Ua,Ub,Uc,Ud,Ue,Uf,Ug,Uh,Ui,Uj,Uk,Ul,Um,Un,Uo,Up,Uq,Ur,Us,Ut,Uu,Uv,U1,U2,U3,U4,U5,U6,U7,U8,U9,Ka,Kb,Kc,Kd,Ke,Kf,Kg,Kh,Ki,Kj,Kk,Kl,Km,Kn,Ko,Kq,Kr,Ks,Kt,Ku,Kv,Kw,Kx,Ky,Kz,K0,K1,K2,K3,K4,K5,K6,K7,Gg,Gi,Gj,Gk,Gl,Gm,Gn,Gr,Hg,Hc,Hb,Mt]
   tactic =>
    try simp only [G6] at *
    try simp only [nc2] at *
    try simp (maxSteps := 4000000) only [h,Gt,Gv,Gx,Gu,szN,Gw,Hi]
    repeat' (first | with_reducible assumption | with_reducible refine And.intro ?_ ?_ | intro _ | omega | (rw [Gy]; omega)))
end Go.Am.Ty
set_option linter.unusedSimpArgs false
set_option linter.unusedVariables false
set_option maxHeartbeats 1000000
namespace Go.Am.Ty
open Go.Proofs
open Enc (enc dec)
structure Rune where
  v : Int
instance encRune : Enc Rune := ⟨fun a => .int .i32 a.v, fun x => ⟨x.i⟩, fun _ => rfl⟩
theorem O4 {a : Rune} : (enc a : D) = .int .i32 a.v := rfl
theorem O5 {v : Int} : (dec (.int .i32 v) : Rune) = ⟨v⟩ := rfl
theorem Oy {v : Int} : isE Rune (.int .i32 v) = True := eq_true rfl
theorem Rune_v {v : Int} : (Rune.mk v).v = v := rfl
theorem Ok {a : Rune} : Rune.mk a.v = a := rfl
def Ey (r : Int) : Bool := leB 97 r && leB r 122
def E3 (r : Int) : Bool := leB 65 r && leB r 90
def Fu (r : Int) : Bool := Ey r || (E3 r || ((leB 48 r && leB r 57) || r == 95))
def Tb : Con := Sn (fun (_ : Rune) => True) (fun a => Ey a.v)
noncomputable def S0 : Ctx := ⟨tab, lkC [], 60, lkB [], [], false⟩
theorem ctx_isSmallG_t : S0.τ = tab := rfl
theorem ctx_isSmallG_c : S0.Γ = lkC [] := rfl
theorem ctx_isSmallG_d : S0.dp = 60 := rfl
theorem ctx_isSmallG_b : S0.Δ = lkB [] := rfl
theorem ctx_isSmallG_u : S0.cuts = [] := rfl
theorem ctx_isSmallG_w : S0.wr = false := rfl
set_option maxRecDepth 100000 in
theorem good_isSmallG : M7 Try.prog (68, Tb) := by
  refine ⟨He Try.func68 (by kernel_rfl) rfl, ?_⟩
  have K : Nh Try.prog S0 := Hl Ny Ht (by simp) (by simp)
  obtain ⟨c, hc⟩ : ∃ c, Try.f68.body = some c := ⟨_, rfl⟩
  refine Hm K Try.func68 hc [.tmp 2] rfl 9 rfl (fun cvs hpre => ?_)
  change Tb.pre cvs at hpre
  unfold Tb at hpre
  obtain ⟨a, rfl, -⟩ := Nw hpre
  simp only [Try.f68, Option.some.injEq] at hc
  subst hc
  (sym =>
   simp [O4,O5,Oy,Ok,ctx_isSmallG_t,ctx_isSmallG_c,ctx_isSmallG_d,ctx_isSmallG_b,ctx_isSmallG_u,ctx_isSmallG_w,Tb.eq_def,Za,Zb,Zc,Zd,Ze,Zf,Zg,Zn,Zo,Zp,Zq,Zr,Zs,Zt,Zv,Qa,Qb,Qc,Qg,Qk,Qm,Qn,Qo,Qp,Qr,Q0,Q1,Q4,Q8,Ja,Jf,Jh,Ji,Jj,Jk,Jl,Jt,Jy,Jz,J5,J6,Xj,Xk,Xl,Xm,Xn,Xo,Xp,Xq,Xr,Xs,Xt,Xu,Xv,Xy,X1,X2,X3,X4,X5,X6,X7,X8,We,Wf,Wg,Wh,Wi,Wj,Wl,Wn,Wo,Wp,Ws,Wt,Wu,Wv,Ww,Wx,Wy,Wz,W0,W3,W4,W5,W6,W7,W8,W9,Ya,Yb,Yc,Yd,Ye,Yf,Yg,Yh,Yi,Yj,Yk,Yl,Ym,Yn,Yo,Yv,Yw,Yx,Yy,Yz,Y1,Y2,Y3,Y4,Y5,Y6,Y7,Y8,Y9,Va,Vb,Vc,Vd,Ve,Vf,Vg,Vh,Vi,Vj,Vk,Vl,Vm,Vn,Vo,Vp,Vq,Vr,Vs,Vt,Vu,Vv,Vw,Vx,Vy,Vz,V0,V1,V2,V3,V4,V5,V6,V7,V8,V9,Ua,Ub,Uc,Ud,Ue,Uf,Ug,Uh,Ui,Uj,Uk,Ul,Um,Un,Uo,Up,Uq,Ur,Us,Ut,Uu,Uv,U1,U2,U5,U6,U7,U8,U9,Ka,Kb,Kc,Kd,Ke,Kf,Kg,Kh,Ki,Kj,Kk,Kl,Km,Kn,Ko,Kq,Kr,Ks,Kt,Ku,Kv,Kw,Kx,Ky,Kz,K0,K1,K2,K3,K4,K5,K6,K7,Gg,Gi,Gj,Gk,Gl,Gm,Gn,Gr,tab21]
   tactic =>
    try simp only [G6] at *
    try simp only [nc2] at *
    try simp (maxSteps := 4000000) only [O4,O5,Oy,Ok,Hi]
    unfold Ey
    repeat' (first | with_reducible assumption | with_reducible refine And.intro ?_ ?_ | intro _ | omega | (rw [Gy]; omega))
    all_goals first
      | (simp_all [leB]; done)
      | (simp_all [leB]; omega))
def Tc : Con := Sn (fun (_ : Rune) => True) (fun a => E3 a.v)
noncomputable def S2 : Ctx := ⟨tab, lkC [], 60, lkB [], [], false⟩
theorem ctx_isGreatG_t : S2.τ = tab := rfl
theorem ctx_isGreatG_c : S2.Γ = lkC [] := rfl
theorem ctx_isGreatG_d : S2.dp = 60 := rfl
theorem ctx_isGreatG_b : S2.Δ = lkB [] := rfl
theorem ctx_isGreatG_u : S2.cuts = [] := rfl
theorem ctx_isGreatG_w : S2.wr = false := rfl
set_option maxRecDepth 100000 in
theorem good_isGreatG : M7 Try.prog (69, Tc) := by
  refine ⟨He Try.func69 (by kernel_rfl) rfl, ?_⟩
  have K : Nh Try.prog S2 := Hl Ny Ht (by simp) (by simp)
  obtain ⟨c, hc⟩ : ∃ c, Try.f69.body = some c := ⟨_, rfl⟩
  refine Hm K Try.func69 hc [.tmp 2] rfl 9 rfl (fun cvs hpre => ?_)
  change Tc.pre cvs at hpre
  unfold Tc at hpre
  obtain ⟨a, rfl, -⟩ := Nw hpre
  simp only [Try.f69, Option.some.injEq] at hc
  subst hc
  (sym =>
   simp [O4,O5,Oy,Ok,ctx_isGreatG_t,ctx_isGreatG_c,ctx_isGreatG_d,ctx_isGreatG_b,ctx_isGreatG_u,ctx_isGreatG_w,Tc.eq_def,Za,Zb,Zc,Zd,Ze,Zf,Zg,Zn,Zo,Zp,Zq,Zr,Zs,Zt,Zv,Qa,Qb,Qc,Qg,Qk,Qm,Qn,Qo,Qp,Qr,Q0,Q1,Q4,Q8,Ja,Jf,Jh,Ji,Jj,Jk,Jl,Jt,Jy,Jz,J5,J6,Xj,Xk,Xl,Xm,Xn,Xo,Xp,Xq,Xr,Xs,Xt,Xu,Xv,Xy,X1,X2,X3,X4,X5,X6,X7,X8,We,Wf,Wg,Wh,Wi,Wj,Wl,Wn,Wo,Wp,Ws,Wt,Wu,Wv,Ww,Wx,Wy,Wz,W0,W3,W4,W5,W6,W7,W8,W9,Ya,Yb,Yc,Yd,Ye,Yf,Yg,Yh,Yi,Yj,Yk,Yl,Ym,Yn,Yo,Yv,Yw,Yx,Yy,Yz,Y1,Y2,Y3,Y4,Y5,Y6,Y7,Y8,Y9,Va,Vb,Vc,Vd,Ve,Vf,Vg,Vh,Vi,Vj,Vk,Vl,Vm,Vn,Vo,Vp,Vq,Vr,Vs,Vt,Vu,Vv,Vw,Vx,Vy,Vz,V0,V1,V2,V3,V4,V5,V6,V7,V8,V9,Ua,Ub,Uc,Ud,Ue,Uf,Ug,Uh,Ui,Uj,Uk,Ul,Um,Un,Uo,Up,Uq,Ur,Us,Ut,Uu,Uv,U1,U2,U5,U6,U7,U8,U9,Ka,Kb,Kc,Kd,Ke,Kf,Kg,Kh,Ki,Kj,Kk,Kl,Km,Kn,Ko,Kq,Kr,Ks,Kt,Ku,Kv,Kw,Kx,Ky,Kz,K0,K1,K2,K3,K4,K5,K6,K7,Gg,Gi,Gj,Gk,Gl,Gm,Gn,Gr,tab21]
   tactic =>
    try simp only [G6] at *
    try simp only [nc2] at *
    try simp (maxSteps := 4000000) only [O4,O5,Oy,Ok,Hi]
    unfold E3
    repeat' (first | with_reducible assumption | with_reducible refine And.intro ?_ ?_ | intro _ | omega | (rw [Gy]; omega))
    all_goals first
      | (simp_all [leB]; done)
      | (simp_all [leB]; omega))
def Ft : Con := Sn (fun (_ : Rune) => True) (fun a => Fu a.v)
noncomputable def Sa : Ctx := ⟨tab, lkC [(68, Tb), (69, Tc)], 60, lkB [], [], false⟩
theorem ctx_isBehindG_t : Sa.τ = tab := rfl
theorem ctx_isBehindG_c : Sa.Γ = lkC [(68, Tb), (69, Tc)] := rfl
theorem ctx_isBehindG_d : Sa.dp = 60 := rfl
theorem ctx_isBehindG_b : Sa.Δ = lkB [] := rfl
theorem ctx_isBehindG_u : Sa.cuts = [] := rfl
theorem ctx_isBehindG_w : Sa.wr = false := rfl
set_option maxRecDepth 100000 in
theorem good_isBehindG : M7 Try.prog (73, Ft) := by
  refine ⟨He Try.func73 (by kernel_rfl) rfl, ?_⟩
  have K : Nh Try.prog Sa := Hl Ny Ht (by
    intro p hp
    simp only [List.mem_cons, List.not_mem_nil, or_false] at hp
    rcases hp with rfl | rfl
    · exact good_isSmallG
    · exact good_isGreatG) (by simp)
  obtain ⟨c, hc⟩ : ∃ c, Try.f73.body = some c := ⟨_, rfl⟩
  refine Hm K Try.func73 hc [.tmp 2] rfl 21 rfl (fun cvs hpre => ?_)
  change Ft.pre cvs at hpre
  unfold Ft at hpre
  obtain ⟨a, rfl, -⟩ := Nw hpre
  simp only [Try.f73, Option.some.injEq] at hc
  subst hc
  (sym =>
   simp [O4,O5,Oy,Ok,Rune_v,ctx_isBehindG_t,ctx_isBehindG_c,ctx_isBehindG_d,ctx_isBehindG_b,ctx_isBehindG_u,ctx_isBehindG_w,Ft.eq_def,Tc.eq_def,Tb.eq_def,Za,Zb,Zc,Zd,Ze,Zf,Zg,Zn,Zo,Zp,Zq,Zr,Zs,Zt,Zv,Z8,Z9,Qa,Qb,Qc,Qd,Qe,Qf,Qg,Qk,Qm,Qn,Qo,Qp,Qr,Q0,Q1,Q4,Q8,Q9,Ja,Jf,Jh,Ji,Jj,Jk,Jl,Jt,Jy,Jz,J5,J6,Xj,Xk,Xl,Xm,Xn,Xo,Xp,Xq,Xr,Xs,Xt,Xu,Xv,Xy,X1,X2,X3,X4,X5,X6,X7,X8,We,Wf,Wg,Wh,Wi,Wj,Wl,Wn,Wo,Wp,Ws,Wt,Wu,Wv,Ww,Wx,Wy,Wz,W0,W3,W4,W5,W6,W7,W8,W9,Ya,Yb,Yc,Yd,Ye,Yf,Yg,Yh,Yi,Yj,Yk,Yl,Ym,Yn,Yo,Yv,Yw,Yx,Yy,Yz,Y1,Y2,Y3,Y4,Y5,Y6,Y7,Y8,Y9,Va,Vb,Vc,Vd,Ve,Vf,Vg,Vh,Vi,Vj,Vk,Vl,Vm,Vn,Vo,Vp,Vq,Vr,Vs,Vt,Vu,Vv,Vw,Vx,Vy,Vz,V0,V1,V2,V3,V4,V5,V6,V7,V8,V9,Ua,Ub,Uc,Ud,Ue,Uf,Ug,Uh,Ui,Uj,Uk,Ul,Um,Un,Uo,Up,Uq,Ur,Us,Ut,Uu,Uv,U1,U2,U5,U6,U7,U8,U9,Ka,Kb,Kc,Kd,Ke,Kf,Kg,Kh,Ki,Kj,Kk,Kl,Km,Kn,Ko,Kq,Kr,Ks,Kt,Ku,Kv,Kw,Kx,Ky,Kz,K0,K1,K2,K3,K4,K5,K6,K7,Gg,Gi,Gj,Gk,Gl,Gm,Gn,Gr,tab21]
   tactic =>
    try simp only [G6] at *
    try simp only [nc2] at *
    try simp (maxSteps := 4000000) only [O4,O5,Oy,Ok,Rune_v,Hi]
    unfold Fu
    repeat' (first | with_reducible assumption | with_reducible refine And.intro ?_ ?_ | intro _ | omega | (rw [Gy]; omega))
    all_goals first
      | (simp_all [leB]; done)
      | (simp_all [leB]; omega))
theorem calls_of_good2 {P : Program} {f : FuncId} {con : Con} {b : Bool} (hg : M7 P (f, con)) (W : World) (xs : List D) (args : Array Value) (hR : Rs (Ei W) xs args.toList) (hpre : con.pre (xs.map .d)) (hfn : con.fn (xs.map .d) = .d (.bool b)) :
    Calls P f args W fun e W' => e = .returned (.bool b) ∧ Go.RowKit.Below W.heap.size W W' := by
  have h := hg.2 (Ei W).m W (xs.map .d) args.toList hpre (CVRs_of_Rs hR) (by rw [Om]; exact List.nodup_nil) (fixOf_new W)
  rw [show args.toList.toArray = args by simp] at h
  refine h.mono ?_
  rintro e W' ⟨v, m', rfl, hfr, _, _, hres⟩
  change Res _ _ _ (con.fn (xs.map .d)) v at hres
  rw [hfn] at hres
  simp only [Res, Sk, CVR, R] at hres
  obtain ⟨⟨v1, r, hv1, rfl, rfl⟩, _⟩ := hres
  injection hv1 with hv1 _
  subst hv1
  refine ⟨rfl, hfr.os, hfr.tape, hfr.output, hfr.size, fun k hk => hfr.block k hk ?_⟩
  rw [Om]
  exact List.not_mem_nil
theorem rune_calls {f : FuncId} {p : Int → Bool} (hg : M7 Try.prog (f, Sn (fun (_ : Rune) => True) (fun a => p a.v))) (r : Int) (W : World) :
    Calls Try.prog f #[.int .i32 r] W fun e W' => e = .returned (.bool (p r)) ∧ Go.RowKit.Below W.heap.size W W' :=
  calls_of_good2 (con := Sn (fun (_ : Rune) => True) (fun a => p a.v)) hg W [.int .i32 r] #[.int .i32 r] ⟨_, _, rfl, rfl, rfl⟩ ⟨rfl, trivial⟩ rfl
theorem calls_isSmall (r : Int) (W : World) : Calls Try.prog 68 #[.int .i32 r] W fun e W' => e = .returned (.bool (Ey r)) ∧ Go.RowKit.Below W.heap.size W W' := rune_calls good_isSmallG r W
theorem calls_isGreat (r : Int) (W : World) : Calls Try.prog 69 #[.int .i32 r] W fun e W' => e = .returned (.bool (E3 r)) ∧ Go.RowKit.Below W.heap.size W W' := rune_calls good_isGreatG r W
theorem Et (r : Int) (W : World) : Calls Try.prog 73 #[.int .i32 r] W fun e W' => e = .returned (.bool (Fu r)) ∧ Go.RowKit.Below W.heap.size W W' := rune_calls good_isBehindG r W
end Go.Am.Ty
set_option linter.unusedSimpArgs false
set_option linter.unusedVariables false
set_option maxHeartbeats 1000000
namespace Go.Am.Ty
open Go.Proofs Go.RowKit
theorem width_pos (s : ByteArray) (pos : Nat) (h : pos < s.size) : 1 ≤ (Utf8.decode s pos).2 := by
  simp only [Utf8.decode]
  repeat' split
  all_goals simp
def Be (p : Int → Bool) (s : ByteArray) : Nat → Nat → Bool
  | 0, _ => true
  | n + 1, pos => if pos < s.size then (cond (pos == 0) (p ((Utf8.decode s pos).1 : Int)) (Fu ((Utf8.decode s pos).1 : Int)) && Be p s n (pos + (Utf8.decode s pos).2)) else true
theorem fitsGo_end {p : Int → Bool} {s : ByteArray} {n pos : Nat} (h : ¬ pos < s.size) : Be p s n pos = true := by
  cases n with
  | zero => rfl
  | succ n => rw [Be, if_neg h]
theorem Rd {B B' : Nat} {a b : World} (h : Below B' a b) (hl : B ≤ B') : Below B a b := ⟨h.os, h.tape, h.output, h.size, fun k hk => h.block k (by omega)⟩
theorem fits_small (s : ByteArray) (w : World) :
    Calls Try.prog 67 #[.string s, .func (.func 68) #[] #[]] w fun e w' => e = .returned (.bool (Be Ey s s.size 0 && !(s.data.toList == []))) ∧ Below w.heap.size w w' := by
  go_enter Try.func67, Try.ntmps67
  go_wp2
  go_loopw [] (fun wr => ∃ pos fuel : Nat, wr.heap[w.heap.size]? = some (.stringIter s pos) ∧ Below w.heap.size w wr ∧ Hid (Be Ey s fuel pos = Be Ey s s.size 0) ∧ s.size ≤ pos + fuel) (fun wr => s.size - wr.iterPos w.heap.size)
  case atStart => exact ⟨0, s.size, World.iter_heap w s 0, (Below.refl _ _).alloc (Nat.le_refl _) _, rfl, by omega⟩
  case round =>
    obtain ⟨pos, fuel, hit, hbw, HS, hb⟩ := hrel
    have hpos0 := iterPos_of hit
    by_cases hp : pos < s.size
    · have hnx : ∀ ty, (Instr.next (.pointer (some ⟨w.heap.size, 0, none⟩)) true ty).run Try.prog wr = _ := fun ty => Lib.run_next_any_at wr w.heap.size s pos ty hit hp
      have hwd := width_pos s pos hp
      obtain ⟨fuel, rfl⟩ : ∃ f', fuel = f' + 1 := ⟨fuel - 1, by omega⟩
      have hit2 := Lib.iterAt_heap wr w.heap.size s pos (pos + (Utf8.decode s pos).2) hit
      have hbw2 := Lib.below_iterAt hbw (k := w.heap.size) (Nat.le_refl _) s (pos + (Utf8.decode s pos).2)
      obtain ⟨W1, hW1⟩ : ∃ W1, W1 = wr.iterAt w.heap.size s (pos + (Utf8.decode s pos).2) := ⟨_, rfl⟩
      rw [← hW1] at hnx hit2 hbw2
      have hlt : w.heap.size < W1.heap.size := lt_of_block hit2
      clear hW1 hit hbw
      by_cases h0 : pos = 0
      · subst h0
        cases hr : Ey ((Utf8.decode s 0).1 : Int) with
        | false =>
          go_wp2_with (go_at_call 68; refine (calls_isSmall _ _).mono ?_; rintro e W2 ⟨rfl, hb2⟩; simp only [hr])
          go_ret
          refine ⟨?_, hbw2.trans (Rd hb2 (by first | omega | (simp; omega) | exact hlt | exact Nat.le_of_lt hlt))⟩
          have e0 : Be Ey s s.size 0 = false := by rw [← HS.out]; simp [Be, hp, hr]
          rw [e0, Bool.false_and]
          rfl
        | true =>
          go_wp2_with (go_at_call 68; refine (calls_isSmall _ _).mono ?_; rintro e W2 ⟨rfl, hb2⟩; simp only [hr])
          have hit3 : W2.heap[w.heap.size]? = some (.stringIter s (0 + (Utf8.decode s 0).2)) := (hb2.block w.heap.size (by first | omega | (simp; omega) | exact hlt | exact Nat.le_of_lt hlt)).trans hit2
          refine ⟨⟨_, fuel, hit3, hbw2.trans (Rd hb2 (by first | omega | (simp; omega) | exact hlt | exact Nat.le_of_lt hlt)), ?_, by omega⟩, ?_⟩
          · show _ = _
            rw [← HS.out]
            simp [Be,hp,hr]
          · rw [iterPos_of hit3, hpos0]
            omega
      · have hpb : ((pos : Int) == 0) = false := by rw [beq_eq_false_iff_ne]; omega
        have hpg : (decide ((pos : Int) > 0)) = true := by rw [decide_eq_true_eq]; omega
        have hpn : (pos == 0) = false := by rw [beq_eq_false_iff_ne]; exact h0
        cases hr : Fu ((Utf8.decode s pos).1 : Int) with
        | false =>
          go_wp2_with (go_at_call 73; refine (Et _ _).mono ?_; rintro e W2 ⟨rfl, hb2⟩; simp only [hr])
          go_ret
          refine ⟨?_, hbw2.trans (Rd hb2 (by first | omega | (simp; omega) | exact hlt | exact Nat.le_of_lt hlt))⟩
          have e0 : Be Ey s s.size 0 = false := by rw [← HS.out]; simp [Be, hp, hr, hpn]
          rw [e0, Bool.false_and]
          rfl
        | true =>
          go_wp2_with (go_at_call 73; refine (Et _ _).mono ?_; rintro e W2 ⟨rfl, hb2⟩; simp only [hr])
          have hit3 : W2.heap[w.heap.size]? = some (.stringIter s (pos + (Utf8.decode s pos).2)) := (hb2.block w.heap.size (by first | omega | (simp; omega) | exact hlt | exact Nat.le_of_lt hlt)).trans hit2
          refine ⟨⟨_, fuel, hit3, hbw2.trans (Rd hb2 (by first | omega | (simp; omega) | exact hlt | exact Nat.le_of_lt hlt)), ?_, by omega⟩, ?_⟩
          · show _ = _
            rw [← HS.out]
            simp [Be,hp,hr,hpn]
          · rw [iterPos_of hit3, hpos0]
            omega
    · have hnx : ∀ ty, (Instr.next (.pointer (some ⟨w.heap.size, 0, none⟩)) true ty).run Try.prog wr = _ := fun ty => Lib.run_next_end_at wr w.heap.size s pos ty hit hp
      go_wp2
      go_ret
      refine ⟨?_, hbw⟩
      rw [← HS.out, fitsGo_end hp, Bool.true_and]
      congr 2
      rw [ByteArray.toList_mk]
      cases s.data.toList <;> rfl
theorem fits_great (s : ByteArray) (w : World) :
    Calls Try.prog 67 #[.string s, .func (.func 69) #[] #[]] w fun e w' => e = .returned (.bool (Be E3 s s.size 0 && !(s.data.toList == []))) ∧ Below w.heap.size w w' := by
  go_enter Try.func67, Try.ntmps67
  go_wp2
  go_loopw [] (fun wr => ∃ pos fuel : Nat, wr.heap[w.heap.size]? = some (.stringIter s pos) ∧ Below w.heap.size w wr ∧ Hid (Be E3 s fuel pos = Be E3 s s.size 0) ∧ s.size ≤ pos + fuel) (fun wr => s.size - wr.iterPos w.heap.size)
  case atStart => exact ⟨0, s.size, World.iter_heap w s 0, (Below.refl _ _).alloc (Nat.le_refl _) _, rfl, by omega⟩
  case round =>
    obtain ⟨pos, fuel, hit, hbw, HS, hb⟩ := hrel
    have hpos0 := iterPos_of hit
    by_cases hp : pos < s.size
    · have hnx : ∀ ty, (Instr.next (.pointer (some ⟨w.heap.size, 0, none⟩)) true ty).run Try.prog wr = _ := fun ty => Lib.run_next_any_at wr w.heap.size s pos ty hit hp
      have hwd := width_pos s pos hp
      obtain ⟨fuel, rfl⟩ : ∃ f', fuel = f' + 1 := ⟨fuel - 1, by omega⟩
      have hit2 := Lib.iterAt_heap wr w.heap.size s pos (pos + (Utf8.decode s pos).2) hit
      have hbw2 := Lib.below_iterAt hbw (k := w.heap.size) (Nat.le_refl _) s (pos + (Utf8.decode s pos).2)
      obtain ⟨W1, hW1⟩ : ∃ W1, W1 = wr.iterAt w.heap.size s (pos + (Utf8.decode s pos).2) := ⟨_, rfl⟩
      rw [← hW1] at hnx hit2 hbw2
      have hlt : w.heap.size < W1.heap.size := lt_of_block hit2
      clear hW1 hit hbw
      by_cases h0 : pos = 0
      · subst h0
        cases hr : E3 ((Utf8.decode s 0).1 : Int) with
        | false =>
          go_wp2_with (go_at_call 69; refine (calls_isGreat _ _).mono ?_; rintro e W2 ⟨rfl, hb2⟩; simp only [hr])
          go_ret
          refine ⟨?_, hbw2.trans (Rd hb2 (by first | omega | (simp; omega) | exact hlt | exact Nat.le_of_lt hlt))⟩
          have e0 : Be E3 s s.size 0 = false := by rw [← HS.out]; simp [Be, hp, hr]
          rw [e0, Bool.false_and]
          rfl
        | true =>
          go_wp2_with (go_at_call 69; refine (calls_isGreat _ _).mono ?_; rintro e W2 ⟨rfl, hb2⟩; simp only [hr])
          have hit3 : W2.heap[w.heap.size]? = some (.stringIter s (0 + (Utf8.decode s 0).2)) := (hb2.block w.heap.size (by first | omega | (simp; omega) | exact hlt | exact Nat.le_of_lt hlt)).trans hit2
          refine ⟨⟨_, fuel, hit3, hbw2.trans (Rd hb2 (by first | omega | (simp; omega) | exact hlt | exact Nat.le_of_lt hlt)), ?_, by omega⟩, ?_⟩
          · show _ = _
            rw [← HS.out]
            simp [Be,hp,hr]
          · rw [iterPos_of hit3, hpos0]
            omega
      · have hpb : ((pos : Int) == 0) = false := by rw [beq_eq_false_iff_ne]; omega
        have hpg : (decide ((pos : Int) > 0)) = true := by rw [decide_eq_true_eq]; omega
        have hpn : (pos == 0) = false := by rw [beq_eq_false_iff_ne]; exact h0
        cases hr : Fu ((Utf8.decode s pos).1 : Int) with
        | false =>
          go_wp2_with (go_at_call 73; refine (Et _ _).mono ?_; rintro e W2 ⟨rfl, hb2⟩; simp only [hr])
          go_ret
          refine ⟨?_, hbw2.trans (Rd hb2 (by first | omega | (simp; omega) | exact hlt | exact Nat.le_of_lt hlt))⟩
          have e0 : Be E3 s s.size 0 = false := by rw [← HS.out]; simp [Be, hp, hr, hpn]
          rw [e0, Bool.false_and]
          rfl
        | true =>
          go_wp2_with (go_at_call 73; refine (Et _ _).mono ?_; rintro e W2 ⟨rfl, hb2⟩; simp only [hr])
          have hit3 : W2.heap[w.heap.size]? = some (.stringIter s (pos + (Utf8.decode s pos).2)) := (hb2.block w.heap.size (by first | omega | (simp; omega) | exact hlt | exact Nat.le_of_lt hlt)).trans hit2
          refine ⟨⟨_, fuel, hit3, hbw2.trans (Rd hb2 (by first | omega | (simp; omega) | exact hlt | exact Nat.le_of_lt hlt)), ?_, by omega⟩, ?_⟩
          · show _ = _
            rw [← HS.out]
            simp [Be,hp,hr,hpn]
          · rw [iterPos_of hit3, hpos0]
            omega
    · have hnx : ∀ ty, (Instr.next (.pointer (some ⟨w.heap.size, 0, none⟩)) true ty).run Try.prog wr = _ := fun ty => Lib.run_next_end_at wr w.heap.size s pos ty hit hp
      go_wp2
      go_ret
      refine ⟨?_, hbw⟩
      rw [← HS.out, fitsGo_end hp, Bool.true_and]
      congr 2
      rw [ByteArray.toList_mk]
      cases s.data.toList <;> rfl
end Go.Am.Ty
set_option linter.unusedSimpArgs false
set_option linter.unusedVariables false
set_option maxHeartbeats 1000000
namespace Go.Am.Ty
open Go.Proofs Go.RowKit
open Enc (enc dec)
theorem get_at (s : ByteArray) (pos : Nat) (h : pos < s.size) : s.get! (pos + 0) = s.data.toList[pos]'(by simpa using h) := by
  show s.get! pos = _
  simp [ByteArray.get!,getElem!_pos,h]
theorem decode_low {s : ByteArray} {pos : Nat} (h : pos < s.size) (hc : (s.data.toList[pos]'(by simpa using h)).toNat < 128) : Utf8.decode s pos = ((s.data.toList[pos]'(by simpa using h)).toNat, 1) := by
  simp only [Utf8.decode, get_at s pos h, if_pos hc]
theorem decode_high {s : ByteArray} {pos : Nat} (h : pos < s.size) (hc : ¬ (s.data.toList[pos]'(by simpa using h)).toNat < 128) : 128 ≤ (Utf8.decode s pos).1 := by
  simp only [Utf8.decode, get_at s pos h, if_neg hc, Utf8.runeError]
  repeat' split
  all_goals simp_all
  all_goals omega
theorem behindR_low {c : UInt8} (h : c.toNat < 128) : Fu (c.toNat : Int) = behind c := by
  have : ∀ c : Fin 256, Fu ((c.val : Nat) : Int) = behind (UInt8.ofNat c.val) := by decide +kernel
  have := this ⟨c.toNat, c.toNat_lt⟩
  simpa using this
theorem behindR_high {r : Nat} (h : 128 ≤ r) : Fu (r : Int) = false := by
  simp [Fu,Ey,E3,leB]
  omega
theorem behind_high {c : UInt8} (h : ¬ c.toNat < 128) : behind c = false := by
  have : ∀ c : Fin 256, 128 ≤ c.val → behind (UInt8.ofNat c.val) = false := by decide +kernel
  have := this ⟨c.toNat, c.toNat_lt⟩ (by simp; omega)
  simpa using this
theorem fitsGo_behind {p : Int → Bool} {s : ByteArray} : ∀ {n pos : Nat}, 0 < pos → s.size ≤ pos + n → Be p s n pos = D9 (s.data.toList.drop pos)
  | 0, pos, h0, h => by
    rw [List.drop_eq_nil_of_le (by simpa using h)]
    rfl
  | n + 1, pos, h0, h => by
    by_cases hp : pos < s.size
    · have hl : pos < s.data.toList.length := by simpa using hp
      rw [Be, if_pos hp, List.drop_eq_getElem_cons hl]
      have hz : (pos == 0) = false := by rw [beq_eq_false_iff_ne]; omega
      rw [hz, cond_false]
      unfold D9
      rw [List.all_cons]
      by_cases hc : (s.data.toList[pos]'hl).toNat < 128
      · rw [decode_low hp hc, behindR_low hc]
        simp only
        rw [fitsGo_behind (by omega) (by omega)]
        rfl
      · rw [behindR_high (decode_high hp hc), behind_high hc, Bool.false_and, Bool.false_and]
    · rw [fitsGo_end hp, List.drop_eq_nil_of_le (by simpa using hp)]
      rfl
theorem fits_is {p : Int → Bool} {q : UInt8 → Bool} (h1 : ∀ c : UInt8, c.toNat < 128 → p (c.toNat : Int) = q c) (h2 : ∀ r : Nat, 128 ≤ r → p (r : Int) = false) (h3 : ∀ c : UInt8, ¬ c.toNat < 128 → q c = false) (s : ByteArray) :
    (Be p s s.size 0 && !(s.data.toList == [])) = match s.data.toList with
    | [] => false
    | c :: r => q c && D9 r := by
  have hsz : s.size = s.data.toList.length := by simp
  obtain ⟨l, hl⟩ : ∃ l, s.data.toList = l := ⟨_, rfl⟩
  cases l with
  | nil => rw [hl]; simp
  | cons c r =>
    have hn : s.size = r.length + 1 := by rw [hsz, hl]; simp
    have h0 : 0 < s.size := by omega
    have hc : s.data.toList[0]'(by rw [← hsz]; exact h0) = c := by simp [hl]
    have hd : s.data.toList.drop 1 = r := by rw [hl]; rfl
    rw [show Be p s s.size 0 = Be p s (r.length + 1) 0 by rw [hn], Be, if_pos h0, hl]
    simp only [beq_self_eq_true, cond_true]
    by_cases h : c.toNat < 128
    · rw [decode_low h0 (by rw [hc]; exact h), hc, h1 c h]
      simp only [Nat.zero_add]
      rw [fitsGo_behind (by omega) (by omega), hd]
      simp
    · rw [h2 _ (decode_high h0 (by rw [hc]; exact h)), h3 c h]
      simp
theorem good_of_calls {f : FuncId} {con : Con} (he : Oj Try.prog f)
    (h : ∀ cvs, con.pre cvs → ∃ (xs : List D) (b : Bool), cvs = xs.map .d ∧ con.fn cvs = .d (.bool b) ∧ ∀ (F : Fix) (vs : List Value) (w : World), Sk F (xs.map .d) vs → Calls Try.prog f vs.toArray w fun e w' => e = .returned (.bool b) ∧ Below w.heap.size w w') : M7 Try.prog (f, con) := by
  refine ⟨he, ?_⟩
  intro m w cvs vs hpre hcv hnd hnew
  obtain ⟨xs, b, rfl, hfn, hc⟩ := h cvs hpre
  refine (hc _ vs w hcv).mono ?_
  rintro e w' ⟨rfl, hb⟩
  refine ⟨_, m, rfl, ⟨hb.os, hb.tape, hb.output, hb.size, fun k hk _ => hb.block k hk⟩, fun _ _ _ => rfl, fun k hk => hnew k (by have := hb.size; omega), ?_⟩
  change Res _ _ _ (con.fn (xs.map .d)) _
  rw [hfn]
  simp only [Res, Sk, CVR, R]
  refine ⟨⟨_, [], rfl, rfl, rfl⟩, fun k hk => ?_⟩
  have : H9 ([D.bool b].map .d) [Value.bool b] = [] := Om _ _
  change k ∈ H9 ([D.bool b].map .d) [Value.bool b] at hk
  rw [this] at hk
  cases hk
theorem within_q (a b c : UInt8) : R8 c a b = (leB (a.toNat : Int) (c.toNat : Int) && leB (c.toNat : Int) (b.toNat : Int)) := by rw [Ew, Ew]; rfl
def con_fitsS : Con := C0 (fun (_ : List UInt8) (_ : Fn0 68) => True) (fun s _ => B5 s)
theorem good_fitsS : M7 Try.prog (67, con_fitsS) := by
  refine good_of_calls (He Try.func67 (by kernel_rfl) rfl) fun cvs hpre => ?_
  obtain ⟨s, f, rfl, -⟩ := Mp hpre
  refine ⟨[.str s, .clo 68 []], B5 s, rfl, rfl, fun F vs w hcv => ?_⟩
  simp only [List.map, Sk, CVR, R, Rs] at hcv
  obtain ⟨v1, r1, rfl, rfl, v2, r2, rfl, ⟨cs, rfl, rfl⟩, rfl⟩ := hcv
  have h := fits_is (p := Ey) (q := fun c => R8 c 97 122) (fun c _ => (within_q 97 122 c).symm) (fun r hr => by simp [Ey, leB]; omega) (fun c hc => by rw [within_q]; simp [leB]; omega) ⟨s.toArray⟩
  refine (fits_small ⟨s.toArray⟩ w).mono ?_
  rintro e w' ⟨rfl, hb⟩
  refine ⟨?_, hb⟩
  rw [h]
  cases s <;> rfl
def con_fitsT : Con := C0 (fun (_ : List UInt8) (_ : Fn0 69) => True) (fun s _ => Ox s)
theorem good_fitsT : M7 Try.prog (67, con_fitsT) := by
  refine good_of_calls (He Try.func67 (by kernel_rfl) rfl) fun cvs hpre => ?_
  obtain ⟨s, f, rfl, -⟩ := Mp hpre
  refine ⟨[.str s, .clo 69 []], Ox s, rfl, rfl, fun F vs w hcv => ?_⟩
  simp only [List.map, Sk, CVR, R, Rs] at hcv
  obtain ⟨v1, r1, rfl, rfl, v2, r2, rfl, ⟨cs, rfl, rfl⟩, rfl⟩ := hcv
  have h := fits_is (p := E3) (q := fun c => R8 c 65 90) (fun c _ => (within_q 65 90 c).symm) (fun r hr => by simp [E3, leB]; omega) (fun c hc => by rw [within_q]; simp [leB]; omega) ⟨s.toArray⟩
  refine (fits_great ⟨s.toArray⟩ w).mono ?_
  rintro e w' ⟨rfl, hb⟩
  refine ⟨?_, hb⟩
  rw [h]
  cases s <;> rfl
def Cd : Con := Sn (fun (_ : List UInt8) => True) (fun s => B5 s)
noncomputable def Cb : Ctx := ⟨tab, lkC [(67, con_fitsS)], 60, lkB [], [], false⟩
theorem ctx_IsWordG_t : Cb.τ = tab := rfl
theorem ctx_IsWordG_c : Cb.Γ = lkC [(67, con_fitsS)] := rfl
theorem ctx_IsWordG_d : Cb.dp = 60 := rfl
theorem ctx_IsWordG_b : Cb.Δ = lkB [] := rfl
theorem ctx_IsWordG_u : Cb.cuts = [] := rfl
theorem ctx_IsWordG_w : Cb.wr = false := rfl
set_option maxRecDepth 100000 in
theorem good_IsWordG : M7 Try.prog (59, Cd) := by
  refine ⟨He Try.func59 (by kernel_rfl) rfl, ?_⟩
  have K : Nh Try.prog Cb := Hl Ny Ht (by
    intro p hp
    simp only [List.mem_cons, List.not_mem_nil, or_false] at hp
    rcases hp with rfl
    · exact good_fitsS) (by simp)
  obtain ⟨c, hc⟩ : ∃ c, Try.f59.body = some c := ⟨_, rfl⟩
  refine Hm K Try.func59 hc [.tmp 2] rfl 5 rfl (fun cvs hpre => ?_)
  change Cd.pre cvs at hpre
  unfold Cd at hpre
  obtain ⟨s, rfl, -⟩ := Nw hpre
  simp only [Try.f59, Option.some.injEq] at hc
  subst hc
  (sym =>
   simp [isE_Fn0,ctx_IsWordG_t,ctx_IsWordG_c,ctx_IsWordG_d,ctx_IsWordG_b,ctx_IsWordG_u,ctx_IsWordG_w,Cd.eq_def,con_fitsS.eq_def,Za,Zb,Zc,Ze,Zf,Zg,Zn,Zo,Zp,Zq,Zr,Zs,Zv,Z8,Z9,Qa,Qb,Qc,Qd,Qe,Qf,Qg,Qk,Qm,Qn,Qo,Qp,Qr,Q0,Q1,Q4,Q8,Q9,Ja,Jf,Jh,Ji,Jj,Jk,Jl,Jt,Jy,Jz,J5,J6,Xj,Xk,Xl,Xm,Xn,Xo,Xp,Xq,Xr,Xs,Xt,Xu,Xv,Xy,X1,X2,X3,X4,X5,X6,X7,X8,We,Wf,Wg,Wh,Wi,Wj,Wl,Wn,Wo,Wp,Ws,Wt,Wu,Wv,Ww,Wx,Wy,Wz,W0,W3,W4,W5,W6,W7,W8,W9,Ya,Yb,Yc,Yd,Ye,Yf,Yg,Yh,Yi,Yj,Yk,Yl,Ym,Yn,Yo,Yv,Yw,Yx,Yy,Yz,Y1,Y2,Y3,Y4,Y5,Y6,Y7,Y8,Y9,Va,Vb,Vc,Vd,Ve,Vf,Vg,Vh,Vi,Vj,Vk,Vl,Vm,Vn,Vo,Vp,Vq,Vr,Vs,Vt,Vu,Vv,Vw,Vx,Vy,Vz,V0,V1,V2,V3,V4,V5,V6,V7,V8,V9,Ua,Ub,Uc,Ud,Ue,Uf,Ug,Uh,Ui,Uj,Uk,Ul,Um,Un,Uo,Up,Uq,Ur,Us,Ut,Uu,Uv,U1,U2,U5,U6,U7,U8,U9,Ka,Kb,Kc,Kd,Ke,Kf,Kg,Kh,Ki,Kj,Kk,Kl,Km,Kn,Ko,Kq,Kr,Ks,Kt,Ku,Kv,Kw,Kx,Ky,Kz,K0,K1,K2,K3,K4,K5,K6,K7,Gg,Gi,Gj,Gk,Gl,Gm,Gn,Gr,H3])
def D2 : Con := Sn (fun (_ : List UInt8) => True) (fun s => Ox s)
noncomputable def Dy : Ctx := ⟨tab, lkC [(67, con_fitsT)], 60, lkB [], [], false⟩
theorem ctx_IsTagG_t : Dy.τ = tab := rfl
theorem ctx_IsTagG_c : Dy.Γ = lkC [(67, con_fitsT)] := rfl
theorem ctx_IsTagG_d : Dy.dp = 60 := rfl
theorem ctx_IsTagG_b : Dy.Δ = lkB [] := rfl
theorem ctx_IsTagG_u : Dy.cuts = [] := rfl
theorem ctx_IsTagG_w : Dy.wr = false := rfl
set_option maxRecDepth 100000 in
theorem good_IsTagG : M7 Try.prog (60, D2) := by
  refine ⟨He Try.func60 (by kernel_rfl) rfl, ?_⟩
  have K : Nh Try.prog Dy := Hl Ny Ht (by
    intro p hp
    simp only [List.mem_cons, List.not_mem_nil, or_false] at hp
    rcases hp with rfl
    · exact good_fitsT) (by simp)
  obtain ⟨c, hc⟩ : ∃ c, Try.f60.body = some c := ⟨_, rfl⟩
  refine Hm K Try.func60 hc [.tmp 2] rfl 5 rfl (fun cvs hpre => ?_)
  change D2.pre cvs at hpre
  unfold D2 at hpre
  obtain ⟨s, rfl, -⟩ := Nw hpre
  simp only [Try.f60, Option.some.injEq] at hc
  subst hc
  (sym =>
   simp [isE_Fn0,ctx_IsTagG_t,ctx_IsTagG_c,ctx_IsTagG_d,ctx_IsTagG_b,ctx_IsTagG_u,ctx_IsTagG_w,D2.eq_def,con_fitsT.eq_def,Za,Zb,Zc,Ze,Zf,Zg,Zn,Zo,Zp,Zq,Zr,Zs,Zv,Z8,Z9,Qa,Qb,Qc,Qd,Qe,Qf,Qg,Qk,Qm,Qn,Qo,Qp,Qr,Q0,Q1,Q4,Q8,Q9,Ja,Jf,Jh,Ji,Jj,Jk,Jl,Jt,Jy,Jz,J5,J6,Xj,Xk,Xl,Xm,Xn,Xo,Xp,Xq,Xr,Xs,Xt,Xu,Xv,Xy,X1,X2,X3,X4,X5,X6,X7,X8,We,Wf,Wg,Wh,Wi,Wj,Wl,Wn,Wo,Wp,Ws,Wt,Wu,Wv,Ww,Wx,Wy,Wz,W0,W3,W4,W5,W6,W7,W8,W9,Ya,Yb,Yc,Yd,Ye,Yf,Yg,Yh,Yi,Yj,Yk,Yl,Ym,Yn,Yo,Yv,Yw,Yx,Yy,Yz,Y1,Y2,Y3,Y4,Y5,Y6,Y7,Y8,Y9,Va,Vb,Vc,Vd,Ve,Vf,Vg,Vh,Vi,Vj,Vk,Vl,Vm,Vn,Vo,Vp,Vq,Vr,Vs,Vt,Vu,Vv,Vw,Vx,Vy,Vz,V0,V1,V2,V3,V4,V5,V6,V7,V8,V9,Ua,Ub,Uc,Ud,Ue,Uf,Ug,Uh,Ui,Uj,Uk,Ul,Um,Un,Uo,Up,Uq,Ur,Us,Ut,Uu,Uv,U1,U2,U5,U6,U7,U8,U9,Ka,Kb,Kc,Kd,Ke,Kf,Kg,Kh,Ki,Kj,Kk,Kl,Km,Kn,Ko,Kq,Kr,Ks,Kt,Ku,Kv,Kw,Kx,Ky,Kz,K0,K1,K2,K3,K4,K5,K6,K7,Gg,Gi,Gj,Gk,Gl,Gm,Gn,Gr,H3])
end Go.Am.Ty
set_option linter.unusedSimpArgs false
set_option linter.unusedVariables false
set_option maxHeartbeats 1000000
namespace Go.Am.Ty
open Go.Proofs Go.Rose Go.Rose.Rose
open Enc (enc dec)
def Ng : Con := Sn (fun (_ : Node) => True) (fun n => Tg n)
noncomputable def T0 : Ctx := ⟨tab, lkC [], 60, lkB [], [], false⟩
theorem ctx_isNodeT_t : T0.τ = tab := rfl
theorem ctx_isNodeT_c : T0.Γ = lkC [] := rfl
theorem ctx_isNodeT_d : T0.dp = 60 := rfl
theorem ctx_isNodeT_b : T0.Δ = lkB [] := rfl
theorem ctx_isNodeT_u : T0.cuts = [] := rfl
theorem ctx_isNodeT_w : T0.wr = false := rfl
set_option maxRecDepth 100000 in
theorem good_isNodeT : M7 Try.prog (41, Ng) := by
  refine ⟨He Try.func41 (by kernel_rfl) rfl, ?_⟩
  have K : Nh Try.prog T0 := Hl Ny Ht (by simp) (by simp)
  obtain ⟨c, hc⟩ : ∃ c, Try.f41.body = some c := ⟨_, rfl⟩
  refine Hm K Try.func41 hc [.tmp 2] rfl 45 rfl (fun cvs hpre => ?_)
  change Ng.pre cvs at hpre
  unfold Ng at hpre
  obtain ⟨n, rfl, -⟩ := Nw hpre
  simp only [Try.f41, Option.some.injEq] at hc
  subst hc
  refine Mn 2 (of_decide_eq_true (by kernel_rfl)) ?_
  (sym =>
   simp [Gt,Gv,Gx,Gu,szN,Gw,ctx_isNodeT_t,ctx_isNodeT_c,ctx_isNodeT_d,ctx_isNodeT_b,ctx_isNodeT_u,ctx_isNodeT_w,Ng.eq_def,Za,Zb,Zc,Zd,Ze,Zf,Zg,Zn,Zo,Zp,Zq,Zr,Zs,Zt,Zu,Zv,Zx,Qa,Qb,Qc,Qg,Qk,Ql,Qm,Qn,Qo,Qp,Qr,Q0,Q1,Q4,Q8,Ja,Jf,Jh,Ji,Jj,Jk,Jl,Jt,Jx,Jy,Jz,J5,J6,J7,J8,J9,Xa,Xb,Xc,Xd,Xe,Xf,Xg,Xj,Xk,Xl,Xm,Xn,Xo,Xp,Xq,Xr,Xs,Xt,Xu,Xv,Xw,Xx,Xy,X1,X2,X3,X4,X5,X6,X7,X8,We,Wf,Wg,Wh,Wi,Wj,Wl,Wn,Wo,Wp,Ws,Wt,Wu,Wv,Ww,Wx,Wy,Wz,W0,W3,W4,W5,W6,W7,W8,W9,Ya,Yb,Yc,Yd,Ye,Yf,Yg,Yh,Yi,Yj,Yk,Yl,Ym,Yn,Yo,Yr,Ys,Yt,Yv,Yw,Yx,Yy,Yz,Y1,Y2,Y3,Y4,Y5,Y6,Y7,Y8,Y9,Va,Vb,Vc,Vd,Ve,Vf,Vg,Vh,Vi,Vj,Vk,Vl,Vm,Vn,Vo,Vp,Vq,Vr,Vs,Vt,Vu,Vv,Vw,Vx,Vy,Vz,V0,V1,V2,V3,V4,V5,V6,V7,V8,V9,Ua,Ub,Uc,Ud,Ue,Uf,Ug,Uh,Ui,Uj,Uk,Ul,Um,Un,Uo,Up,Uq,Ur,Us,Ut,Uu,Uv,U1,U2,U5,U6,U7,U8,U9,Ka,Kb,Kc,Kd,Ke,Kf,Kg,Kh,Ki,Kj,Kk,Kl,Km,Kn,Ko,Kq,Kr,Ks,Kt,Ku,Kv,Kw,Kx,Ky,Kz,K0,K1,K2,K3,K4,K5,K6,K7,Gg,Gi,Gj,Gk,Gl,Gm,Gn,Gr,Hg,Hb]
   tactic =>
    try simp only [G6] at *
    try simp only [nc2] at *
    try simp (maxSteps := 4000000) only [Gt,Gv,Gx,Gu,szN,Gw,Hi]
    unfold Tg
    repeat' (first | with_reducible assumption | with_reducible refine And.intro ?_ ?_ | intro _ | omega | (rw [Gy]; omega))
    all_goals
      rw [Bool.eq_iff_iff]
      repeat' split
      all_goals first
        | (exfalso; omega)
        | (simp only [leB, ltB, Bool.and_eq_true, decide_eq_true_eq, beq_iff_eq, Bool.false_eq_true]; omega)
        | (simp only [leB, ltB, Bool.and_eq_true, decide_eq_true_eq, beq_iff_eq, Bool.false_eq_true, false_iff]; omega)
        | (simp only [leB, ltB, Bool.and_eq_true, decide_eq_true_eq, beq_iff_eq, Bool.false_eq_true]; done))
def labB (k : Int) (s : List UInt8) : Bool := if k = 6 then B5 s else if k = 7 then Ox s else s == []
def Nb : Con := C0 (fun (_ : Int) (_ : List UInt8) => True) labB
noncomputable def S1 : Ctx := ⟨tab, lkC [(59, Cd), (60, D2)], 60, lkB [], [], false⟩
theorem ctx_isLabelT_t : S1.τ = tab := rfl
theorem ctx_isLabelT_c : S1.Γ = lkC [(59, Cd), (60, D2)] := rfl
theorem ctx_isLabelT_d : S1.dp = 60 := rfl
theorem ctx_isLabelT_b : S1.Δ = lkB [] := rfl
theorem ctx_isLabelT_u : S1.cuts = [] := rfl
theorem ctx_isLabelT_w : S1.wr = false := rfl
set_option maxRecDepth 100000 in
theorem good_isLabelT : M7 Try.prog (44, Nb) := by
  refine ⟨He Try.func44 (by kernel_rfl) rfl, ?_⟩
  have K : Nh Try.prog S1 := Hl Ny Ht (by
    intro p hp
    simp only [List.mem_cons, List.not_mem_nil, or_false] at hp
    rcases hp with rfl | rfl
    · exact good_IsWordG
    · exact good_IsTagG) (by simp)
  obtain ⟨c, hc⟩ : ∃ c, Try.f44.body = some c := ⟨_, rfl⟩
  refine Hm K Try.func44 hc [.tmp 4] rfl 16 rfl (fun cvs hpre => ?_)
  change Nb.pre cvs at hpre
  unfold Nb at hpre
  obtain ⟨k, s, rfl, -⟩ := Mp hpre
  simp only [Try.f44, Option.some.injEq] at hc
  subst hc
  (sym =>
   simp [Gt,Gv,Gx,Gu,szN,Gw,ctx_isLabelT_t,ctx_isLabelT_c,ctx_isLabelT_d,ctx_isLabelT_b,ctx_isLabelT_u,ctx_isLabelT_w,D2.eq_def,Cd.eq_def,Nb.eq_def,Za,Zb,Zc,Ze,Zf,Zg,Zn,Zo,Zp,Zq,Zr,Zs,Zv,Z8,Z9,Qa,Qb,Qc,Qd,Qe,Qf,Qg,Qk,Qm,Qn,Qo,Qp,Qr,Q0,Q1,Q4,Q8,Q9,Ja,Jf,Jh,Ji,Jj,Jk,Jl,Jt,Jy,Jz,J5,J6,Xj,Xk,Xl,Xm,Xn,Xo,Xp,Xq,Xr,Xs,Xt,Xu,Xv,Xy,X1,X2,X3,X4,X5,X6,X7,X8,We,Wf,Wg,Wh,Wi,Wj,Wl,Wn,Wo,Wp,Ws,Wt,Wu,Wv,Ww,Wx,Wy,Wz,W0,W3,W4,W5,W6,W7,W8,W9,Ya,Yb,Yc,Yd,Ye,Yf,Yg,Yh,Yi,Yj,Yk,Yl,Ym,Yn,Yo,Yv,Yw,Yx,Yy,Yz,Y1,Y2,Y3,Y4,Y5,Y6,Y7,Y8,Y9,Va,Vb,Vc,Vd,Ve,Vf,Vg,Vh,Vi,Vj,Vk,Vl,Vm,Vn,Vo,Vp,Vq,Vr,Vs,Vt,Vu,Vv,Vw,Vx,Vy,Vz,V0,V1,V2,V3,V4,V5,V6,V7,V8,V9,Ua,Ub,Uc,Ud,Ue,Uf,Ug,Uh,Ui,Uj,Uk,Ul,Um,Un,Uo,Up,Uq,Ur,Us,Ut,Uu,Uv,U1,U2,U5,U6,U7,U8,U9,Ka,Kb,Kc,Kd,Ke,Kf,Kg,Kh,Ki,Kj,Kk,Kl,Km,Kn,Ko,Kq,Kr,Ks,Kt,Ku,Kv,Kw,Kx,Ky,Kz,K0,K1,K2,K3,K4,K5,K6,K7,Gg,Gi,Gj,Gk,Gl,Gm,Gn,Gr,Hg,H3]
   tactic =>
    try simp only [G6] at *
    try simp only [nc2] at *
    try simp (maxSteps := 4000000) only [Gt,Gv,Gx,Gu,szN,Gw,Hi]
    unfold labB
    repeat' (first | with_reducible assumption | with_reducible refine And.intro ?_ ?_ | intro _ | omega | (rw [Gy]; omega))
    all_goals simp_all)
end Go.Am.Ty
set_option linter.unusedSimpArgs false
set_option linter.unusedVariables false
set_option maxHeartbeats 1000000
namespace Go.Am.Ty
open Go.Proofs Go.Rose Go.Rose.Rose
open Enc (enc dec)
def R2 (p : Node) (k : Nat) (x : Node) (last : List UInt8) : Bool :=
  cond (x.kind == 9) (cond (!Su p) true (cond (ltB (k : Int) (p.n - 1)) true (!(x.name == []))))
    (cond (!labB p.kind x.name) true (cond (Su p) (Op.bytesLess x.name last || x.name == last) false))
def Ov (t : List Node) (tr : Nat → Bool × Nat) (p : Node) : Nat → Nat → List UInt8 → Nat → Bool × Nat
  | 0, _, _, at_ => (true, at_)
  | m + 1, k, last, at_ => cond (leB (t.length : Int) at_) (false, at_)
      (cond (R2 p k (t.getD at_ n0) last) (false, at_)
        (cond (tr at_).1 (Ov t tr p m (k + 1) (t.getD at_ n0).name (tr at_).2) (false, (tr at_).2)))
def Ln (t : List Node) : Nat → Nat → Bool × Nat
  | 0, at_ => (false, at_)
  | f + 1, at_ => cond (leB (t.length : Int) at_) (false, at_)
      (cond (Tg (t.getD at_ n0)) (Ov t (Ln t f) (t.getD at_ n0) (ar (t.getD at_ n0)) 0 [] (at_ + 1)) (false, at_))
structure TX where
  t : List Node
  i : Nat
  f : Nat
  d : Int
def Bq (t : List Node) (i : Nat) : List Obj := [.box false [.d (.int .i64 i)], .box false [.d (.list 3 (t.map enc))], .box false [.clo 40 [.ref 90000 0, .ref 90001 0, .ref 90002 0]]]
theorem Mx {t : List Node} {i : Nat} : Bq t i = [.box false [.d (.int .i64 i)], .box false [.d (.list 3 (t.map enc))], .box false [.clo 40 [.ref 90000 0, .ref 90001 0, .ref 90002 0]]] := rfl
def Pi (n : Nat) : BCon where
  X := TX
  ok x := x.t.length ≤ 1000000 ∧ I0 x.t ∧ x.f ≤ 100 ∧ x.d = 101 - x.f ∧ x.f < n
  args x := [.d (.int .i64 x.d), .ref 90000 0, .ref 90001 0, .ref 90002 0]
  objs x := Bq x.t x.i
  res x := .bool (Ln x.t x.f x.i).1
  post x := Bq x.t (Ln x.t x.f x.i).2
theorem bcon_treeT_zero : ∀ x, ¬ (Pi 0).ok x := by
  rintro x ⟨_, _, _, _, h⟩
  omega
theorem treeT_post {n : Nat} {t : List Node} {i f : Nat} {d : Int} : (Pi n).post ⟨t, i, f, d⟩ = Bq t (Ln t f i).2 := rfl
theorem treeT_res {n : Nat} {t : List Node} {i f : Nat} {d : Int} : (Pi n).res ⟨t, i, f, d⟩ = .bool (Ln t f i).1 := rfl
theorem numb_row {p : Node} (h : Tg p = true) (hr : Su p = true) : 0 ≤ p.n ∧ p.n ≤ 50 := by
  unfold Su at hr
  rw [Bool.or_eq_true, beq_iff_eq, beq_iff_eq] at hr
  unfold Tg at h
  rw [if_neg (by omega), if_neg (by omega)] at h
  split at h
  · simp only [Bool.and_eq_true, decide_eq_true_eq] at h
    exact h
  · rw [if_pos (by omega)] at h
    simp only [Bool.and_eq_true, decide_eq_true_eq] at h
    omega
theorem Es : canon 3 [90000, 90001, 90002] := by
  intro j hj
  match j, hj with
  | 0, _ => rfl
  | 1, _ => rfl
  | 2, _ => rfl
noncomputable def Cf (n : Nat) : Ctx := ⟨tab, lkC [(42, Mg), (43, Ni), (41, Ng), (44, Nb)], 60, lkB [(40, (Pi n))], [], false⟩
theorem Nr (n : Nat) : (Cf n).τ = tab := rfl
theorem Nt (n : Nat) : (Cf n).Γ = lkC [(42, Mg), (43, Ni), (41, Ng), (44, Nb)] := rfl
theorem Ns (n : Nat) : (Cf n).dp = 60 := rfl
theorem Nu (n : Nat) : (Cf n).Δ = lkB [(40, (Pi n))] := rfl
theorem Nq (n : Nat) : (Cf n).cuts = [] := rfl
theorem Np (n : Nat) : (Cf n).wr = false := rfl
set_option maxRecDepth 100000 in
theorem stepb_treeT (n : Nat) (ih : GoodB Try.prog (40, Pi n)) : GoodB Try.prog (40, (Pi (n + 1))) := by
  refine ⟨He Try.func40 (by kernel_rfl) rfl, ?_⟩
  have K : Nh Try.prog (Cf n) := Hl Ny Ht (by
    intro p hp
    simp only [List.mem_cons, List.not_mem_nil, or_false] at hp
    rcases hp with rfl | rfl | rfl | rfl
    · exact good_manyT
    · exact good_isRowT
    · exact good_isNodeT
    · exact good_isLabelT) (by
    intro p hp
    simp only [List.mem_cons, List.not_mem_nil, or_false] at hp
    rcases hp with rfl
    · exact ih)
  obtain ⟨c, hc⟩ : ∃ c, Try.f40.body = some c := ⟨_, rfl⟩
  refine fn_soundB K Try.func40 hc [.tmp 5] rfl 89 rfl (fun x hok => ?_)
  obtain ⟨t, i, f, d⟩ := x
  obtain ⟨ht, hN, hf, hd, hn⟩ := hok
  simp only at ht hN hf hd hn
  refine ⟨?_, ?_, ?_, ?_, ?_⟩
  · show Tied [.d (.int .i64 d), .ref 90000 0, .ref 90001 0, .ref 90002 0] (Bq t i)
    rw [Mx]
    simp [Tied,tiedAll,Obj.tied,B2,keptAll,AV.kept,Mu,mkFrom,lk]
  · show B2 (Bq t i)
    rw [Mx]
    simp [B2]
  · show Tied [] (Bq t (Ln t f i).2)
    rw [Mx]
    simp [Tied,tiedAll,Obj.tied,B2,keptAll,AV.kept,Mu,mkFrom,lk]
  · show (Bq t i).length ≤ (Bq t (Ln t f i).2).length
    rw [Mx, Mx]
    simp
  show awp (Cf n) c (PostB _ _ (Bq t i).length (.bool (Ln t f i).1) (Bq t (Ln t f i).2)) ⟨[.d (.int .i64 d), .ref 90000 0, .ref 90001 0, .ref 90002 0] ++ deads 85, Mu (Bq t i)⟩
  rw [Mx, Mx]
  simp only [Try.f40, Option.some.injEq] at hc
  subst hc
  refine Mn 5 (of_decide_eq_true (by kernel_rfl)) ?_
  cases f with
  | zero =>
    have h0 : Ln t 0 i = (false, i) := rfl
    rw [h0]
    have hdb : ltB 100 d = true := by rw [Ba]; omega
    rcases leB_cases t.length i with ⟨hle, hleb⟩ | ⟨hle, hleb⟩
    · (sym =>
       simp [hleb,Gt,Gv,Gx,Gu,szN,Gw,Nr,Nt,Ns,Nu,Nq,Np,Nb.eq_def,Ng.eq_def,Ni.eq_def,Mg.eq_def,Za,Zb,Zc,Zd,Ze,Zf,Zg,Zn,Zo,Zp,Zq,Zr,Zs,Zt,Zu,Zv,Zw,Zx,Zy,Z5,Z8,Z9,Qa,Qb,Qc,Qd,Qe,Qf,Qg,Qj,Qk,Ql,Qm,Qn,Qo,Qp,Qr,Qs,Qt,Qu,Qv,Qw,Q0,Q1,Q3,Q4,Q8,Q9,Ja,Jf,Jh,Ji,Jj,Jk,Jl,Jm,Jn,Jo,Jp,Jq,Jr,Jt,Jx,Jy,Jz,J0,J1,J2,J5,J6,J7,J8,J9,Xa,Xb,Xc,Xd,Xe,Xf,Xg,Xj,Xk,Xl,Xm,Xn,Xo,Xp,Xq,Xr,Xs,Xt,Xu,Xv,Xw,Xx,Xy,Xz,X1,X2,X3,X4,X5,X6,X7,X8,We,Wf,Wg,Wh,Wi,Wj,Wl,Wm,Wn,Wo,Wp,Ws,Wt,Wu,Wv,Ww,Wx,Wy,Wz,W0,W3,W4,W5,W6,W7,W8,W9,Ya,Yb,Yc,Yd,Ye,Yf,Yg,Yh,Yi,Yj,Yk,Yl,Ym,Yn,Yo,Yr,Ys,Yt,Yu,Yv,Yw,Yx,Yy,Yz,Y1,Y2,Y3,Y4,Y5,Y6,Y7,Y8,Y9,Va,Vb,Vc,Vd,Ve,Vf,Vg,Vh,Vi,Vj,Vk,Vl,Vm,Vn,Vo,Vp,Vq,Vr,Vs,Vt,Vu,Vv,Vw,Vx,Vy,Vz,V0,V1,V2,V3,V4,V5,V6,V7,V8,V9,Ua,Ub,Uc,Ud,Ue,Uf,Ug,Uh,Ui,Uj,Uk,Ul,Um,Un,Uo,Up,Uq,Ur,Us,Ut,Uu,Uv,Uw,Ux,Uy,Uz,U0,U1,U2,U5,U6,U7,U8,U9,Ka,Kb,Kc,Kd,Ke,Kf,Kg,Kh,Ki,Kj,Kk,Kl,Km,Kn,Ko,Kq,Kr,Ks,Kt,Ku,Kv,Kw,Kx,Ky,Kz,K0,K1,K2,K3,K4,K5,K6,K7,Gg,Gi,Gj,Gk,Gl,Gm,Gn,Gp,Gq,Gr,Hg,Nf,H3,Hc,Hb,Sj]
       tactic =>
        try simp only [G6] at *
        try simp only [nc2] at *
        try simp (maxSteps := 4000000) only [hleb,Gt,Gv,Gx,Gu,szN,Gw,Hi]
        repeat' (first | with_reducible assumption | with_reducible refine And.intro ?_ ?_ | intro _ | omega | (rw [Gy]; omega))
        refine ⟨[90000, 90001, 90002], by simp, rfl, Es, ?_⟩
        simp [Nx,lk,rnO,rnA,rnAs,rk])
    · (sym =>
       simp [hleb,hdb,Gt,Gv,Gx,Gu,szN,Gw,Nr,Nt,Ns,Nu,Nq,Np,Nb.eq_def,Ng.eq_def,Ni.eq_def,Mg.eq_def,Za,Zb,Zc,Zd,Ze,Zf,Zg,Zn,Zo,Zp,Zq,Zr,Zs,Zt,Zu,Zv,Zw,Zx,Zy,Z5,Z8,Z9,Qa,Qb,Qc,Qd,Qe,Qf,Qg,Qj,Qk,Ql,Qm,Qn,Qo,Qp,Qr,Qs,Qt,Qu,Qv,Qw,Q0,Q1,Q3,Q4,Q8,Q9,Ja,Jf,Jh,Ji,Jj,Jk,Jl,Jm,Jn,Jo,Jp,Jq,Jr,Jt,Jx,Jy,Jz,J0,J1,J2,J5,J6,J7,J8,J9,Xa,Xb,Xc,Xd,Xe,Xf,Xg,Xj,Xk,Xl,Xm,Xn,Xo,Xp,Xq,Xr,Xs,Xt,Xu,Xv,Xw,Xx,Xy,Xz,X1,X2,X3,X4,X5,X6,X7,X8,We,Wf,Wg,Wh,Wi,Wj,Wl,Wm,Wn,Wo,Wp,Ws,Wt,Wu,Wv,Ww,Wx,Wy,Wz,W0,W3,W4,W5,W6,W7,W8,W9,Ya,Yb,Yc,Yd,Ye,Yf,Yg,Yh,Yi,Yj,Yk,Yl,Ym,Yn,Yo,Yr,Ys,Yt,Yu,Yv,Yw,Yx,Yy,Yz,Y1,Y2,Y3,Y4,Y5,Y6,Y7,Y8,Y9,Va,Vb,Vc,Vd,Ve,Vf,Vg,Vh,Vi,Vj,Vk,Vl,Vm,Vn,Vo,Vp,Vq,Vr,Vs,Vt,Vu,Vv,Vw,Vx,Vy,Vz,V0,V1,V2,V3,V4,V5,V6,V7,V8,V9,Ua,Ub,Uc,Ud,Ue,Uf,Ug,Uh,Ui,Uj,Uk,Ul,Um,Un,Uo,Up,Uq,Ur,Us,Ut,Uu,Uv,Uw,Ux,Uy,Uz,U0,U1,U2,U5,U6,U7,U8,U9,Ka,Kb,Kc,Kd,Ke,Kf,Kg,Kh,Ki,Kj,Kk,Kl,Km,Kn,Ko,Kq,Kr,Ks,Kt,Ku,Kv,Kw,Kx,Ky,Kz,K0,K1,K2,K3,K4,K5,K6,K7,Gg,Gi,Gj,Gk,Gl,Gm,Gn,Gp,Gq,Gr,Hg,Nf,H3,Hc,Hb,Sj]
       tactic =>
        try simp only [G6] at *
        try simp only [nc2] at *
        try simp (maxSteps := 4000000) only [hleb,hdb,Gt,Gv,Gx,Gu,szN,Gw,Hi]
        repeat' (first | with_reducible assumption | with_reducible refine And.intro ?_ ?_ | intro _ | omega | (rw [Gy]; omega))
        refine ⟨[90000, 90001, 90002], by simp, rfl, Es, ?_⟩
        simp [Nx,lk,rnO,rnA,rnAs,rk])
  | succ f =>
    have hdb : ltB 100 d = false := by rw [Me]; omega
    have hfold : Ln t (f + 1) i = cond (leB (t.length : Int) i) (false, i)
      (cond (Tg (t.getD i n0)) (Ov t (Ln t f) (t.getD i n0) (ar (t.getD i n0)) 0 [] (i + 1)) (false, i)) := rfl
    rcases leB_cases t.length i with ⟨hle, hleb⟩ | ⟨hle, hleb⟩
    · rw [hleb, cond_true] at hfold
      rw [hfold]
      (sym =>
       simp [hleb,Gt,Gv,Gx,Gu,szN,Gw,Nr,Nt,Ns,Nu,Nq,Np,Nb.eq_def,Ng.eq_def,Ni.eq_def,Mg.eq_def,Za,Zb,Zc,Zd,Ze,Zf,Zg,Zn,Zo,Zp,Zq,Zr,Zs,Zt,Zu,Zv,Zw,Zx,Zy,Z5,Z8,Z9,Qa,Qb,Qc,Qd,Qe,Qf,Qg,Qj,Qk,Ql,Qm,Qn,Qo,Qp,Qr,Qs,Qt,Qu,Qv,Qw,Q0,Q1,Q3,Q4,Q8,Q9,Ja,Jf,Jh,Ji,Jj,Jk,Jl,Jm,Jn,Jo,Jp,Jq,Jr,Jt,Jx,Jy,Jz,J0,J1,J2,J5,J6,J7,J8,J9,Xa,Xb,Xc,Xd,Xe,Xf,Xg,Xj,Xk,Xl,Xm,Xn,Xo,Xp,Xq,Xr,Xs,Xt,Xu,Xv,Xw,Xx,Xy,Xz,X1,X2,X3,X4,X5,X6,X7,X8,We,Wf,Wg,Wh,Wi,Wj,Wl,Wm,Wn,Wo,Wp,Ws,Wt,Wu,Wv,Ww,Wx,Wy,Wz,W0,W3,W4,W5,W6,W7,W8,W9,Ya,Yb,Yc,Yd,Ye,Yf,Yg,Yh,Yi,Yj,Yk,Yl,Ym,Yn,Yo,Yr,Ys,Yt,Yu,Yv,Yw,Yx,Yy,Yz,Y1,Y2,Y3,Y4,Y5,Y6,Y7,Y8,Y9,Va,Vb,Vc,Vd,Ve,Vf,Vg,Vh,Vi,Vj,Vk,Vl,Vm,Vn,Vo,Vp,Vq,Vr,Vs,Vt,Vu,Vv,Vw,Vx,Vy,Vz,V0,V1,V2,V3,V4,V5,V6,V7,V8,V9,Ua,Ub,Uc,Ud,Ue,Uf,Ug,Uh,Ui,Uj,Uk,Ul,Um,Un,Uo,Up,Uq,Ur,Us,Ut,Uu,Uv,Uw,Ux,Uy,Uz,U0,U1,U2,U5,U6,U7,U8,U9,Ka,Kb,Kc,Kd,Ke,Kf,Kg,Kh,Ki,Kj,Kk,Kl,Km,Kn,Ko,Kq,Kr,Ks,Kt,Ku,Kv,Kw,Kx,Ky,Kz,K0,K1,K2,K3,K4,K5,K6,K7,Gg,Gi,Gj,Gk,Gl,Gm,Gn,Gp,Gq,Gr,Hg,Nf,H3,Hc,Hb,Sj]
       tactic =>
        try simp only [G6] at *
        try simp only [nc2] at *
        try simp (maxSteps := 4000000) only [hleb,Gt,Gv,Gx,Gu,szN,Gw,Hi]
        repeat' (first | with_reducible assumption | with_reducible refine And.intro ?_ ?_ | intro _ | omega | (rw [Gy]; omega))
        refine ⟨[90000, 90001, 90002], by simp, rfl, Es, ?_⟩
        simp [Nx,lk,rnO,rnA,rnAs,rk])
    rw [hleb, cond_false] at hfold
    have hil : i < t.length := by omega
    have hel := H7 n0 hil
    obtain ⟨p, hp⟩ : ∃ p, t.getD i n0 = p := ⟨_, rfl⟩
    rw [hp] at hel hfold
    cases hnb : Tg p with
    | false =>
      rw [hnb, cond_false] at hfold
      rw [hfold]
      (sym =>
       simp [hleb,hdb,hel,hnb,Gt,Gv,Gx,Gu,szN,Gw,Nr,Nt,Ns,Nu,Nq,Np,Nb.eq_def,Ng.eq_def,Ni.eq_def,Mg.eq_def,Za,Zb,Zc,Zd,Ze,Zf,Zg,Zn,Zo,Zp,Zq,Zr,Zs,Zt,Zu,Zv,Zw,Zx,Zy,Z5,Z8,Z9,Qa,Qb,Qc,Qd,Qe,Qf,Qg,Qj,Qk,Ql,Qm,Qn,Qo,Qp,Qr,Qs,Qt,Qu,Qv,Qw,Q0,Q1,Q3,Q4,Q8,Q9,Ja,Jf,Jh,Ji,Jj,Jk,Jl,Jm,Jn,Jo,Jp,Jq,Jr,Jt,Jx,Jy,Jz,J0,J1,J2,J5,J6,J7,J8,J9,Xa,Xb,Xc,Xd,Xe,Xf,Xg,Xj,Xk,Xl,Xm,Xn,Xo,Xp,Xq,Xr,Xs,Xt,Xu,Xv,Xw,Xx,Xy,Xz,X1,X2,X3,X4,X5,X6,X7,X8,We,Wf,Wg,Wh,Wi,Wj,Wl,Wm,Wn,Wo,Wp,Ws,Wt,Wu,Wv,Ww,Wx,Wy,Wz,W0,W3,W4,W5,W6,W7,W8,W9,Ya,Yb,Yc,Yd,Ye,Yf,Yg,Yh,Yi,Yj,Yk,Yl,Ym,Yn,Yo,Yr,Ys,Yt,Yu,Yv,Yw,Yx,Yy,Yz,Y1,Y2,Y3,Y4,Y5,Y6,Y7,Y8,Y9,Va,Vb,Vc,Vd,Ve,Vf,Vg,Vh,Vi,Vj,Vk,Vl,Vm,Vn,Vo,Vp,Vq,Vr,Vs,Vt,Vu,Vv,Vw,Vx,Vy,Vz,V0,V1,V2,V3,V4,V5,V6,V7,V8,V9,Ua,Ub,Uc,Ud,Ue,Uf,Ug,Uh,Ui,Uj,Uk,Ul,Um,Un,Uo,Up,Uq,Ur,Us,Ut,Uu,Uv,Uw,Ux,Uy,Uz,U0,U1,U2,U5,U6,U7,U8,U9,Ka,Kb,Kc,Kd,Ke,Kf,Kg,Kh,Ki,Kj,Kk,Kl,Km,Kn,Ko,Kq,Kr,Ks,Kt,Ku,Kv,Kw,Kx,Ky,Kz,K0,K1,K2,K3,K4,K5,K6,K7,Gg,Gi,Gj,Gk,Gl,Gm,Gn,Gp,Gq,Gr,Hg,Nf,H3,Hc,Hb,Sj]
       tactic =>
        try simp only [G6] at *
        try simp only [nc2] at *
        try simp (maxSteps := 4000000) only [hleb,hdb,hel,hnb,Gt,Gv,Gx,Gu,szN,Gw,Hi]
        repeat' (first | with_reducible assumption | with_reducible refine And.intro ?_ ?_ | intro _ | omega | (rw [Gy]; omega))
        refine ⟨[90000, 90001, 90002], by simp, rfl, Es, ?_⟩
        simp [Nx,lk,rnO,rnA,rnAs,rk])
    | true =>
      have har : ar p ≤ 50 := by have := (numb3_tame hnb).2; rw [many_ar hnb] at this; omega
      rw [hnb, cond_true] at hfold
      rw [hfold]
      obtain ⟨r, hr⟩ : ∃ r, Ov t (Ln t f) p (ar p) 0 [] (i + 1) = r := ⟨_, rfl⟩
      rw [hr]
      obtain ⟨r1, r2⟩ := r
      simp only
      (sym =>
       simp [hleb,hdb,hel,hnb,Gt,Gv,Gx,Gu,szN,Gw,Nr,Nt,Ns,Nu,Nq,Np,Nb.eq_def,Ng.eq_def,Ni.eq_def,Mg.eq_def,Za,Zb,Zc,Zd,Ze,Zf,Zg,Zn,Zo,Zp,Zq,Zr,Zs,Zt,Zu,Zv,Zw,Zx,Zy,Z5,Z8,Z9,Qa,Qb,Qc,Qd,Qe,Qf,Qg,Qj,Qk,Ql,Qm,Qn,Qo,Qp,Qr,Qs,Qt,Qu,Qv,Qw,Q0,Q1,Q3,Q4,Q8,Q9,Ja,Jf,Jh,Ji,Jj,Jk,Jl,Jm,Jn,Jo,Jp,Jq,Jr,Jt,Jx,Jy,Jz,J0,J1,J2,J5,J6,J7,J8,J9,Xa,Xb,Xc,Xd,Xe,Xf,Xg,Xj,Xk,Xl,Xm,Xn,Xo,Xp,Xq,Xr,Xs,Xt,Xu,Xv,Xw,Xx,Xy,Xz,X1,X2,X3,X4,X5,X6,X7,X8,We,Wf,Wg,Wh,Wi,Wj,Wl,Wm,Wn,Wo,Wp,Ws,Wt,Wu,Wv,Ww,Wx,Wy,Wz,W0,W3,W4,W5,W6,W7,W8,W9,Ya,Yb,Yc,Yd,Ye,Yf,Yg,Yh,Yi,Yj,Yk,Yl,Ym,Yn,Yo,Yr,Ys,Yt,Yu,Yv,Yw,Yx,Yy,Yz,Y1,Y2,Y3,Y4,Y5,Y6,Y7,Y8,Y9,Va,Vb,Vc,Vd,Ve,Vf,Vg,Vh,Vi,Vj,Vk,Vl,Vm,Vn,Vo,Vp,Vq,Vr,Vs,Vt,Vu,Vv,Vw,Vx,Vy,Vz,V0,V1,V2,V3,V4,V5,V6,V7,V8,V9,Ua,Ub,Uc,Ud,Ue,Uf,Ug,Uh,Ui,Uj,Uk,Ul,Um,Un,Uo,Up,Uq,Ur,Us,Ut,Uu,Uv,Uw,Ux,Uy,Uz,U0,U1,U2,U5,U6,U7,U8,U9,Ka,Kb,Kc,Kd,Ke,Kf,Kg,Kh,Ki,Kj,Kk,Kl,Km,Kn,Ko,Kq,Kr,Ks,Kt,Ku,Kv,Kw,Kx,Ky,Kz,K0,K1,K2,K3,K4,K5,K6,K7,Gg,Gi,Gj,Gk,Gl,Gm,Gn,Gp,Gq,Gr,Hg,Nf,H3,Hc,Hb,Sj]
       tactic =>
        try simp only [G6] at *
        try simp only [nc2] at *
        try simp (maxSteps := 4000000) only [hleb,hdb,hel,hnb,Gt,Gv,Gx,Gu,szN,Gw,Hi]
        repeat' (first | with_reducible assumption | with_reducible refine And.intro ?_ ?_ | intro _ | omega | (rw [Gy]; omega))
        refine Ho [5, 8, 9, 35, 36, 37, 38, 39, 40, 41, 42, 43, 44, 45, 46, 47, 48, 49, 50, 51, 52, 53, 54, 55, 56, 57, 58, 59, 60, 61, 62, 63, 64, 65, 66, 67, 68, 69, 70, 71, 72, 73, 74, 75, 76, 77, 78, 79, 80, 81, 82, 83, 84, 85, 86, 87, 88] (fun q : Nat × List UInt8 × Nat => [(7, .d (.str q.2.1)), (34, .d (.int .i64 q.1))]) (fun q : Nat × List UInt8 × Nat => [(90000, .box false [.d (.int .i64 q.2.2)])]) (fun q : Nat × List UInt8 × Nat => q.1 ≤ ar p ∧ Ov t (Ln t f) p (ar p - q.1) q.1 q.2.1 q.2.2 = (r1, r2)) (fun q : Nat × List UInt8 × Nat => ar p - q.1) (0, [], i + 1) ?_ ?_ ?_
        · exact ⟨Nat.zero_le _, hr⟩
        · ((try simp only [G3, Ha, G5, Hf, upd, Hh, Hn, Na, Nat.reduceDiv, Nat.reduceMod, Nat.reduceMul, Nat.reduceAdd, Nat.reduceEqDiff, List.set_cons_zero, List.set_cons_succ, if_true, if_false, reduceIte]); (first | refine Wk.of_fl ?_ | skip); simp only [Wk, wkK, Nd, wkT, wk1, AV.kept, keptAll, wkO, lk, G4, and_true, true_and, and_self, Nat.reduceEqDiff, Nat.reduceLeDiff, if_true, if_false, reduceIte, reduceCtorEq, Option.isSome, false_implies]; try simp [Wk, wkK, wkT, wk1, AV.kept, keptAll, wkO, lk, G4])
        rintro ⟨k, last, j⟩ ⟨hk, hR⟩
        simp only at hk hR
        rcases Hq k (ar p) with ⟨hlt, hltb⟩ | ⟨hlt, hltb⟩
        · obtain ⟨m, hm⟩ : ∃ m, ar p - k = m + 1 := ⟨ar p - k - 1, by omega⟩
          rw [hm, Ov] at hR
          rcases leB_cases t.length j with ⟨hle2, hleb2⟩ | ⟨hle2, hleb2⟩
          · rw [hleb2, cond_true] at hR
            injection hR with hr1 hr2
            subst hr1
            subst hr2
            (sym =>
             simp [hltb,hleb2,Gt,Gv,Gx,Gu,szN,Gw,Nr,Nt,Ns,Nu,Nq,Np,Nb.eq_def,Ng.eq_def,Ni.eq_def,Mg.eq_def,Za,Zb,Zc,Zd,Ze,Zf,Zg,Zn,Zo,Zp,Zq,Zr,Zs,Zt,Zu,Zv,Zw,Zx,Zy,Z5,Z8,Z9,Qa,Qb,Qc,Qd,Qe,Qf,Qg,Qj,Qk,Ql,Qm,Qn,Qo,Qp,Qr,Qs,Qt,Qu,Qv,Qw,Q0,Q1,Q3,Q4,Q8,Q9,Ja,Jf,Jh,Ji,Jj,Jk,Jl,Jm,Jn,Jo,Jp,Jq,Jr,Jt,Jx,Jy,Jz,J0,J1,J2,J5,J6,J7,J8,J9,Xa,Xb,Xc,Xd,Xe,Xf,Xg,Xj,Xk,Xl,Xm,Xn,Xo,Xp,Xq,Xr,Xs,Xt,Xu,Xv,Xw,Xx,Xy,Xz,X1,X2,X3,X4,X5,X6,X7,X8,We,Wf,Wg,Wh,Wi,Wj,Wl,Wm,Wn,Wo,Wp,Ws,Wt,Wu,Wv,Ww,Wx,Wy,Wz,W0,W3,W4,W5,W6,W7,W8,W9,Ya,Yb,Yc,Yd,Ye,Yf,Yg,Yh,Yi,Yj,Yk,Yl,Ym,Yn,Yo,Yr,Ys,Yt,Yu,Yv,Yw,Yx,Yy,Yz,Y1,Y2,Y3,Y4,Y5,Y6,Y7,Y8,Y9,Va,Vb,Vc,Vd,Ve,Vf,Vg,Vh,Vi,Vj,Vk,Vl,Vm,Vn,Vo,Vp,Vq,Vr,Vs,Vt,Vu,Vv,Vw,Vx,Vy,Vz,V0,V1,V2,V3,V4,V5,V6,V7,V8,V9,Ua,Ub,Uc,Ud,Ue,Uf,Ug,Uh,Ui,Uj,Uk,Ul,Um,Un,Uo,Up,Uq,Ur,Us,Ut,Uu,Uv,Uw,Ux,Uy,Uz,U0,U1,U2,U5,U6,U7,U8,U9,Ka,Kb,Kc,Kd,Ke,Kf,Kg,Kh,Ki,Kj,Kk,Kl,Km,Kn,Ko,Kq,Kr,Ks,Kt,Ku,Kv,Kw,Kx,Ky,Kz,K0,K1,K2,K3,K4,K5,K6,K7,Gg,Gi,Gj,Gk,Gl,Gm,Gn,Gp,Gq,Gr,Hg,Nf,H3,Hc,Hb,Sj]
             tactic =>
              try simp only [G6] at *
              try simp only [nc2] at *
              try simp (maxSteps := 4000000) only [hltb,hleb2,Gt,Gv,Gx,Gu,szN,Gw,Hi]
              repeat' (first | with_reducible assumption | with_reducible refine And.intro ?_ ?_ | intro _ | omega | (rw [Gy]; omega))
              refine ⟨[90000, 90001, 90002], by simp, rfl, Es, ?_⟩
              simp [Nx,lk,rnO,rnA,rnAs,rk])
          rw [hleb2, cond_false] at hR
          have hjl : j < t.length := by omega
          have hel2 := H7 n0 hjl
          obtain ⟨x, hx⟩ : ∃ x, t.getD j n0 = x := ⟨_, rfl⟩
          rw [hx] at hel2 hR
          cases h9 : (x.kind == 9) with
          | true =>
            cases hrow : Su p with
            | false =>
              have hb : R2 p k x last = true := by simp only [R2, h9, hrow, cond_true, cond_false, Bool.not_true, Bool.not_false]
              rw [hb, cond_true] at hR
              injection hR with hr1 hr2
              subst hr1
              subst hr2
              (sym =>
               simp [hltb,hleb2,hel2,h9,hrow,Gt,Gv,Gx,Gu,szN,Gw,Nr,Nt,Ns,Nu,Nq,Np,Nb.eq_def,Ng.eq_def,Ni.eq_def,Mg.eq_def,Za,Zb,Zc,Zd,Ze,Zf,Zg,Zn,Zo,Zp,Zq,Zr,Zs,Zt,Zu,Zv,Zw,Zx,Zy,Z5,Z8,Z9,Qa,Qb,Qc,Qd,Qe,Qf,Qg,Qj,Qk,Ql,Qm,Qn,Qo,Qp,Qr,Qs,Qt,Qu,Qv,Qw,Q0,Q1,Q3,Q4,Q8,Q9,Ja,Jf,Jh,Ji,Jj,Jk,Jl,Jm,Jn,Jo,Jp,Jq,Jr,Jt,Jx,Jy,Jz,J0,J1,J2,J5,J6,J7,J8,J9,Xa,Xb,Xc,Xd,Xe,Xf,Xg,Xj,Xk,Xl,Xm,Xn,Xo,Xp,Xq,Xr,Xs,Xt,Xu,Xv,Xw,Xx,Xy,Xz,X1,X2,X3,X4,X5,X6,X7,X8,We,Wf,Wg,Wh,Wi,Wj,Wl,Wm,Wn,Wo,Wp,Ws,Wt,Wu,Wv,Ww,Wx,Wy,Wz,W0,W3,W4,W5,W6,W7,W8,W9,Ya,Yb,Yc,Yd,Ye,Yf,Yg,Yh,Yi,Yj,Yk,Yl,Ym,Yn,Yo,Yr,Ys,Yt,Yu,Yv,Yw,Yx,Yy,Yz,Y1,Y2,Y3,Y4,Y5,Y6,Y7,Y8,Y9,Va,Vb,Vc,Vd,Ve,Vf,Vg,Vh,Vi,Vj,Vk,Vl,Vm,Vn,Vo,Vp,Vq,Vr,Vs,Vt,Vu,Vv,Vw,Vx,Vy,Vz,V0,V1,V2,V3,V4,V5,V6,V7,V8,V9,Ua,Ub,Uc,Ud,Ue,Uf,Ug,Uh,Ui,Uj,Uk,Ul,Um,Un,Uo,Up,Uq,Ur,Us,Ut,Uu,Uv,Uw,Ux,Uy,Uz,U0,U1,U2,U5,U6,U7,U8,U9,Ka,Kb,Kc,Kd,Ke,Kf,Kg,Kh,Ki,Kj,Kk,Kl,Km,Kn,Ko,Kq,Kr,Ks,Kt,Ku,Kv,Kw,Kx,Ky,Kz,K0,K1,K2,K3,K4,K5,K6,K7,Gg,Gi,Gj,Gk,Gl,Gm,Gn,Gp,Gq,Gr,Hg,Nf,H3,Hc,Hb,Sj]
               tactic =>
                try simp only [G6] at *
                try simp only [nc2] at *
                try simp (maxSteps := 4000000) only [hltb,hleb2,hel2,h9,hrow,Gt,Gv,Gx,Gu,szN,Gw,Hi]
                repeat' (first | with_reducible assumption | with_reducible refine And.intro ?_ ?_ | intro _ | omega | (rw [Gy]; omega))
                refine ⟨[90000, 90001, 90002], by simp, rfl, Es, ?_⟩
                simp [Nx,lk,rnO,rnA,rnAs,rk])
            | true =>
              have hpn := numb_row hnb hrow
              cases hlk : ltB (k : Int) (p.n - 1) with
              | true =>
                have hb : R2 p k x last = true := by simp only [R2, h9, hrow, hlk, cond_true, cond_false, Bool.not_true, Bool.not_false]
                rw [hb, cond_true] at hR
                injection hR with hr1 hr2
                subst hr1
                subst hr2
                (sym =>
                 simp [hltb,hleb2,hel2,h9,hrow,hlk,Gt,Gv,Gx,Gu,szN,Gw,Nr,Nt,Ns,Nu,Nq,Np,Nb.eq_def,Ng.eq_def,Ni.eq_def,Mg.eq_def,Za,Zb,Zc,Zd,Ze,Zf,Zg,Zn,Zo,Zp,Zq,Zr,Zs,Zt,Zu,Zv,Zw,Zx,Zy,Z5,Z8,Z9,Qa,Qb,Qc,Qd,Qe,Qf,Qg,Qj,Qk,Ql,Qm,Qn,Qo,Qp,Qr,Qs,Qt,Qu,Qv,Qw,Q0,Q1,Q3,Q4,Q8,Q9,Ja,Jf,Jh,Ji,Jj,Jk,Jl,Jm,Jn,Jo,Jp,Jq,Jr,Jt,Jx,Jy,Jz,J0,J1,J2,J5,J6,J7,J8,J9,Xa,Xb,Xc,Xd,Xe,Xf,Xg,Xj,Xk,Xl,Xm,Xn,Xo,Xp,Xq,Xr,Xs,Xt,Xu,Xv,Xw,Xx,Xy,Xz,X1,X2,X3,X4,X5,X6,X7,X8,We,Wf,Wg,Wh,Wi,Wj,Wl,Wm,Wn,Wo,Wp,Ws,Wt,Wu,Wv,Ww,Wx,Wy,Wz,W0,W3,W4,W5,W6,W7,W8,W9,Ya,Yb,Yc,Yd,Ye,Yf,Yg,Yh,Yi,Yj,Yk,Yl,Ym,Yn,Yo,Yr,Ys,Yt,Yu,Yv,Yw,Yx,Yy,Yz,Y1,Y2,Y3,Y4,Y5,Y6,Y7,Y8,Y9,Va,Vb,Vc,Vd,Ve,Vf,Vg,Vh,Vi,Vj,Vk,Vl,Vm,Vn,Vo,Vp,Vq,Vr,Vs,Vt,Vu,Vv,Vw,Vx,Vy,Vz,V0,V1,V2,V3,V4,V5,V6,V7,V8,V9,Ua,Ub,Uc,Ud,Ue,Uf,Ug,Uh,Ui,Uj,Uk,Ul,Um,Un,Uo,Up,Uq,Ur,Us,Ut,Uu,Uv,Uw,Ux,Uy,Uz,U0,U1,U2,U5,U6,U7,U8,U9,Ka,Kb,Kc,Kd,Ke,Kf,Kg,Kh,Ki,Kj,Kk,Kl,Km,Kn,Ko,Kq,Kr,Ks,Kt,Ku,Kv,Kw,Kx,Ky,Kz,K0,K1,K2,K3,K4,K5,K6,K7,Gg,Gi,Gj,Gk,Gl,Gm,Gn,Gp,Gq,Gr,Hg,Nf,H3,Hc,Hb,Sj]
                 tactic =>
                  try simp only [G6] at *
                  try simp only [nc2] at *
                  try simp (maxSteps := 4000000) only [hltb,hleb2,hel2,h9,hrow,hlk,Gt,Gv,Gx,Gu,szN,Gw,Hi]
                  repeat' (first | with_reducible assumption | with_reducible refine And.intro ?_ ?_ | intro _ | omega | (rw [Gy]; omega))
                  refine ⟨[90000, 90001, 90002], by simp, rfl, Es, ?_⟩
                  simp [Nx,lk,rnO,rnA,rnAs,rk])
              | false =>
                cases hnm : (x.name == []) with
                | false =>
                  have hb : R2 p k x last = true := by simp only [R2, h9, hrow, hlk, hnm, cond_true, cond_false, Bool.not_true, Bool.not_false]
                  rw [hb, cond_true] at hR
                  injection hR with hr1 hr2
                  subst hr1
                  subst hr2
                  (sym =>
                   simp [hltb,hleb2,hel2,h9,hrow,hlk,hnm,Gt,Gv,Gx,Gu,szN,Gw,Nr,Nt,Ns,Nu,Nq,Np,Nb.eq_def,Ng.eq_def,Ni.eq_def,Mg.eq_def,Za,Zb,Zc,Zd,Ze,Zf,Zg,Zn,Zo,Zp,Zq,Zr,Zs,Zt,Zu,Zv,Zw,Zx,Zy,Z5,Z8,Z9,Qa,Qb,Qc,Qd,Qe,Qf,Qg,Qj,Qk,Ql,Qm,Qn,Qo,Qp,Qr,Qs,Qt,Qu,Qv,Qw,Q0,Q1,Q3,Q4,Q8,Q9,Ja,Jf,Jh,Ji,Jj,Jk,Jl,Jm,Jn,Jo,Jp,Jq,Jr,Jt,Jx,Jy,Jz,J0,J1,J2,J5,J6,J7,J8,J9,Xa,Xb,Xc,Xd,Xe,Xf,Xg,Xj,Xk,Xl,Xm,Xn,Xo,Xp,Xq,Xr,Xs,Xt,Xu,Xv,Xw,Xx,Xy,Xz,X1,X2,X3,X4,X5,X6,X7,X8,We,Wf,Wg,Wh,Wi,Wj,Wl,Wm,Wn,Wo,Wp,Ws,Wt,Wu,Wv,Ww,Wx,Wy,Wz,W0,W3,W4,W5,W6,W7,W8,W9,Ya,Yb,Yc,Yd,Ye,Yf,Yg,Yh,Yi,Yj,Yk,Yl,Ym,Yn,Yo,Yr,Ys,Yt,Yu,Yv,Yw,Yx,Yy,Yz,Y1,Y2,Y3,Y4,Y5,Y6,Y7,Y8,Y9,Va,Vb,Vc,Vd,Ve,Vf,Vg,Vh,Vi,Vj,Vk,Vl,Vm,Vn,Vo,Vp,Vq,Vr,Vs,Vt,Vu,Vv,Vw,Vx,Vy,Vz,V0,V1,V2,V3,V4,V5,V6,V7,V8,V9,Ua,Ub,Uc,Ud,Ue,Uf,Ug,Uh,Ui,Uj,Uk,Ul,Um,Un,Uo,Up,Uq,Ur,Us,Ut,Uu,Uv,Uw,Ux,Uy,Uz,U0,U1,U2,U5,U6,U7,U8,U9,Ka,Kb,Kc,Kd,Ke,Kf,Kg,Kh,Ki,Kj,Kk,Kl,Km,Kn,Ko,Kq,Kr,Ks,Kt,Ku,Kv,Kw,Kx,Ky,Kz,K0,K1,K2,K3,K4,K5,K6,K7,Gg,Gi,Gj,Gk,Gl,Gm,Gn,Gp,Gq,Gr,Hg,Nf,H3,Hc,Hb,Sj]
                   tactic =>
                    try simp only [G6] at *
                    try simp only [nc2] at *
                    try simp (maxSteps := 4000000) only [hltb,hleb2,hel2,h9,hrow,hlk,hnm,Gt,Gv,Gx,Gu,szN,Gw,Hi]
                    repeat' (first | with_reducible assumption | with_reducible refine And.intro ?_ ?_ | intro _ | omega | (rw [Gy]; omega))
                    refine ⟨[90000, 90001, 90002], by simp, rfl, Es, ?_⟩
                    simp [Nx,lk,rnO,rnA,rnAs,rk])
                | true =>
                  have hb : R2 p k x last = false := by simp only [R2, h9, hrow, hlk, hnm, cond_true, cond_false, Bool.not_true, Bool.not_false]
                  rw [hb, cond_false] at hR
                  obtain ⟨w, hw⟩ : ∃ w, Ln t f j = w := ⟨_, rfl⟩
                  rw [hw] at hR
                  obtain ⟨w1, w2⟩ := w
                  simp only at hR
                  have hp2 : (Pi n).post ⟨t, j, f, d + 1⟩ = Bq t w2 := by rw [treeT_post, hw]
                  have hp3 : (Pi n).res ⟨t, j, f, d + 1⟩ = .bool w1 := by rw [treeT_res, hw]
                  (sym =>
                   simp [hltb,hleb2,hel2,h9,hrow,hlk,hnm,Gt,Gv,Gx,Gu,szN,Gw,Nr,Nt,Ns,Nu,Nq,Np,Nb.eq_def,Ng.eq_def,Ni.eq_def,Mg.eq_def,Za,Zb,Zc,Zd,Ze,Zf,Zg,Zn,Zo,Zp,Zq,Zr,Zs,Zt,Zu,Zv,Zw,Zx,Zy,Z5,Z8,Z9,Qa,Qb,Qc,Qd,Qe,Qf,Qg,Qj,Qk,Ql,Qm,Qn,Qo,Qp,Qr,Qs,Qt,Qu,Qv,Qw,Q0,Q1,Q3,Q4,Q8,Q9,Ja,Jf,Jh,Ji,Jj,Jk,Jl,Jm,Jn,Jo,Jp,Jq,Jr,Jt,Jx,Jy,Jz,J0,J1,J2,J5,J6,J7,J8,J9,Xa,Xb,Xc,Xd,Xe,Xf,Xg,Xj,Xk,Xl,Xm,Xn,Xo,Xp,Xq,Xr,Xs,Xt,Xu,Xv,Xw,Xx,Xy,Xz,X1,X2,X3,X4,X5,X6,X7,X8,We,Wf,Wg,Wh,Wi,Wj,Wl,Wm,Wn,Wo,Wp,Ws,Wt,Wu,Wv,Ww,Wx,Wy,Wz,W0,W3,W4,W5,W6,W7,W8,W9,Ya,Yb,Yc,Yd,Ye,Yf,Yg,Yh,Yi,Yj,Yk,Yl,Ym,Yn,Yo,Yr,Ys,Yt,Yu,Yv,Yw,Yx,Yy,Yz,Y1,Y2,Y3,Y4,Y5,Y6,Y7,Y8,Y9,Va,Vb,Vc,Vd,Ve,Vf,Vg,Vh,Vi,Vj,Vk,Vl,Vm,Vn,Vo,Vp,Vq,Vr,Vs,Vt,Vu,Vv,Vw,Vx,Vy,Vz,V0,V1,V2,V3,V4,V5,V6,V7,V8,V9,Ua,Ub,Uc,Ud,Ue,Uf,Ug,Uh,Ui,Uj,Uk,Ul,Um,Un,Uo,Up,Uq,Ur,Us,Ut,Uu,Uv,Uw,Ux,Uy,Uz,U0,U1,U2,U5,U6,U7,U8,U9,Ka,Kb,Kc,Kd,Ke,Kf,Kg,Kh,Ki,Kj,Kk,Kl,Km,Kn,Ko,Kq,Kr,Ks,Kt,Ku,Kv,Kw,Kx,Ky,Kz,K0,K1,K2,K3,K4,K5,K6,K7,Gg,Gi,Gj,Gk,Gl,Gm,Gn,Gp,Gq,Gr,Hg,Nf,H3,Hc,Hb,Sj]
                   tactic =>
                    try simp only [G6] at *
                    try simp only [nc2] at *
                    try simp (maxSteps := 4000000) only [hltb,hleb2,hel2,h9,hrow,hlk,hnm,Gt,Gv,Gx,Gu,szN,Gw,Hi]
                    repeat' (first | with_reducible assumption | with_reducible refine And.intro ?_ ?_ | intro _ | omega | (rw [Gy]; omega))
                    refine aCallB_of (bc := Pi n) ⟨t, j, f, d + 1⟩ [90000, 90001, 90002] ⟨ht, hN, by simp only; omega, by simp only; omega, by simp only; omega⟩ rfl (by simp) (by rw [hp2]; rfl) ?_ ?_ ?_
                    · show Nx _ _ (Bq t j) _
                      rw [Mx]
                      simp [Nx,lk,rnO,rnA,rnAs,rk]
                    · show Ll (List.drop (Bq t j).length _) _
                      rw [Mx]
                      simp [Ll,lk]
                    cases w1 with
                    | false =>
                      rw [cond_false] at hR
                      injection hR with hr1 hr2
                      subst hr1
                      subst hr2
                      (sym =>
                       simp [hp2,hp3,Mx,Gt,Gv,Gx,Gu,szN,Gw,Nr,Nt,Ns,Nu,Nq,Np,Nb.eq_def,Ng.eq_def,Ni.eq_def,Mg.eq_def,Za,Zb,Zc,Zd,Ze,Zf,Zg,Zn,Zo,Zp,Zq,Zr,Zs,Zt,Zu,Zv,Zw,Zx,Zy,Z5,Z8,Z9,Qa,Qb,Qc,Qd,Qe,Qf,Qg,Qj,Qk,Ql,Qm,Qn,Qo,Qp,Qr,Qs,Qt,Qu,Qv,Qw,Q0,Q1,Q3,Q4,Q8,Q9,Ja,Jf,Jh,Ji,Jj,Jk,Jl,Jm,Jn,Jo,Jp,Jq,Jr,Jt,Jx,Jy,Jz,J0,J1,J2,J5,J6,J7,J8,J9,Xa,Xb,Xc,Xd,Xe,Xf,Xg,Xj,Xk,Xl,Xm,Xn,Xo,Xp,Xq,Xr,Xs,Xt,Xu,Xv,Xw,Xx,Xy,Xz,X1,X2,X3,X4,X5,X6,X7,X8,We,Wf,Wg,Wh,Wi,Wj,Wl,Wm,Wn,Wo,Wp,Ws,Wt,Wu,Wv,Ww,Wx,Wy,Wz,W0,W3,W4,W5,W6,W7,W8,W9,Ya,Yb,Yc,Yd,Ye,Yf,Yg,Yh,Yi,Yj,Yk,Yl,Ym,Yn,Yo,Yr,Ys,Yt,Yu,Yv,Yw,Yx,Yy,Yz,Y1,Y2,Y3,Y4,Y5,Y6,Y7,Y8,Y9,Va,Vb,Vc,Vd,Ve,Vf,Vg,Vh,Vi,Vj,Vk,Vl,Vm,Vn,Vo,Vp,Vq,Vr,Vs,Vt,Vu,Vv,Vw,Vx,Vy,Vz,V0,V1,V2,V3,V4,V5,V6,V7,V8,V9,Ua,Ub,Uc,Ud,Ue,Uf,Ug,Uh,Ui,Uj,Uk,Ul,Um,Un,Uo,Up,Uq,Ur,Us,Ut,Uu,Uv,Uw,Ux,Uy,Uz,U0,U1,U2,U5,U6,U7,U8,U9,Ka,Kb,Kc,Kd,Ke,Kf,Kg,Kh,Ki,Kj,Kk,Kl,Km,Kn,Ko,Kq,Kr,Ks,Kt,Ku,Kv,Kw,Kx,Ky,Kz,K0,K1,K2,K3,K4,K5,K6,K7,Gg,Gi,Gj,Gk,Gl,Gm,Gn,Gp,Gq,Gr,Hg,Nf,H3,Hc,Hb,Sj]
                       tactic =>
                        try simp only [G6] at *
                        try simp only [nc2] at *
                        try simp (maxSteps := 4000000) only [hp2,hp3,Mx,Gt,Gv,Gx,Gu,szN,Gw,Hi]
                        repeat' (first | with_reducible assumption | with_reducible refine And.intro ?_ ?_ | intro _ | omega | (rw [Gy]; omega))
                        refine ⟨[90000, 90001, 90002], by simp, rfl, Es, ?_⟩
                        simp [Nx,lk,rnO,rnA,rnAs,rk])
                    | true =>
                      rw [cond_true] at hR
                      (sym =>
                       simp [hp2,hp3,Mx,Gt,Gv,Gx,Gu,szN,Gw,Nr,Nt,Ns,Nu,Nq,Np,Nb.eq_def,Ng.eq_def,Ni.eq_def,Mg.eq_def,Za,Zb,Zc,Zd,Ze,Zf,Zg,Zn,Zo,Zp,Zq,Zr,Zs,Zt,Zu,Zv,Zw,Zx,Zy,Z5,Z8,Z9,Qa,Qb,Qc,Qd,Qe,Qf,Qg,Qj,Qk,Ql,Qm,Qn,Qo,Qp,Qr,Qs,Qt,Qu,Qv,Qw,Q0,Q1,Q3,Q4,Q8,Q9,Ja,Jf,Jh,Ji,Jj,Jk,Jl,Jm,Jn,Jo,Jp,Jq,Jr,Jt,Jx,Jy,Jz,J0,J1,J2,J5,J6,J7,J8,J9,Xa,Xb,Xc,Xd,Xe,Xf,Xg,Xj,Xk,Xl,Xm,Xn,Xo,Xp,Xq,Xr,Xs,Xt,Xu,Xv,Xw,Xx,Xy,Xz,X1,X2,X3,X4,X5,X6,X7,X8,We,Wf,Wg,Wh,Wi,Wj,Wl,Wm,Wn,Wo,Wp,Ws,Wt,Wu,Wv,Ww,Wx,Wy,Wz,W0,W3,W4,W5,W6,W7,W8,W9,Ya,Yb,Yc,Yd,Ye,Yf,Yg,Yh,Yi,Yj,Yk,Yl,Ym,Yn,Yo,Yr,Ys,Yt,Yu,Yv,Yw,Yx,Yy,Yz,Y1,Y2,Y3,Y4,Y5,Y6,Y7,Y8,Y9,Va,Vb,Vc,Vd,Ve,Vf,Vg,Vh,Vi,Vj,Vk,Vl,Vm,Vn,Vo,Vp,Vq,Vr,Vs,Vt,Vu,Vv,Vw,Vx,Vy,Vz,V0,V1,V2,V3,V4,V5,V6,V7,V8,V9,Ua,Ub,Uc,Ud,Ue,Uf,Ug,Uh,Ui,Uj,Uk,Ul,Um,Un,Uo,Up,Uq,Ur,Us,Ut,Uu,Uv,Uw,Ux,Uy,Uz,U0,U1,U2,U5,U6,U7,U8,U9,Ka,Kb,Kc,Kd,Ke,Kf,Kg,Kh,Ki,Kj,Kk,Kl,Km,Kn,Ko,Kq,Kr,Ks,Kt,Ku,Kv,Kw,Kx,Ky,Kz,K0,K1,K2,K3,K4,K5,K6,K7,Gg,Gi,Gj,Gk,Gl,Gm,Gn,Gp,Gq,Gr,Hg,Nf,H3,Hc,Hb,Sj]
                       tactic =>
                        try simp only [G6] at *
                        try simp only [nc2] at *
                        try simp (maxSteps := 4000000) only [hp2,hp3,Mx,Gt,Gv,Gx,Gu,szN,Gw,Hi]
                        repeat' (first | with_reducible assumption | with_reducible refine And.intro ?_ ?_ | intro _ | omega | (rw [Gy]; omega))
                        refine ⟨(k + 1, x.name, w2), by ((try simp only [G3, Ha, G5, Hf, upd, Hh, Hn, Na, Nat.reduceDiv, Nat.reduceMod, Nat.reduceMul, Nat.reduceAdd, Nat.reduceEqDiff, List.set_cons_zero, List.set_cons_succ, if_true, if_false, reduceIte]); (first | refine Wk.of_fl ?_ | skip); simp only [Wk, wkK, Nd, wkT, wk1, AV.kept, keptAll, wkO, lk, G4, and_true, true_and, and_self, Nat.reduceEqDiff, Nat.reduceLeDiff, if_true, if_false, reduceIte, reduceCtorEq, Option.isSome, false_implies]; try simp [Wk, wkK, wkT, wk1, AV.kept, keptAll, wkO, lk, G4]), by simp only; omega, ?_, by simp only; omega⟩
                        simp only
                        rw [show ar p - (k + 1) = m by omega]
                        exact hR))
          | false =>
            cases hla : labB p.kind x.name with
            | false =>
              have hb : R2 p k x last = true := by simp only [R2, h9, hla, cond_true, cond_false, Bool.not_true, Bool.not_false]
              rw [hb, cond_true] at hR
              injection hR with hr1 hr2
              subst hr1
              subst hr2
              (sym =>
               simp [hltb,hleb2,hel2,h9,hla,Gt,Gv,Gx,Gu,szN,Gw,Nr,Nt,Ns,Nu,Nq,Np,Nb.eq_def,Ng.eq_def,Ni.eq_def,Mg.eq_def,Za,Zb,Zc,Zd,Ze,Zf,Zg,Zn,Zo,Zp,Zq,Zr,Zs,Zt,Zu,Zv,Zw,Zx,Zy,Z5,Z8,Z9,Qa,Qb,Qc,Qd,Qe,Qf,Qg,Qj,Qk,Ql,Qm,Qn,Qo,Qp,Qr,Qs,Qt,Qu,Qv,Qw,Q0,Q1,Q3,Q4,Q8,Q9,Ja,Jf,Jh,Ji,Jj,Jk,Jl,Jm,Jn,Jo,Jp,Jq,Jr,Jt,Jx,Jy,Jz,J0,J1,J2,J5,J6,J7,J8,J9,Xa,Xb,Xc,Xd,Xe,Xf,Xg,Xj,Xk,Xl,Xm,Xn,Xo,Xp,Xq,Xr,Xs,Xt,Xu,Xv,Xw,Xx,Xy,Xz,X1,X2,X3,X4,X5,X6,X7,X8,We,Wf,Wg,Wh,Wi,Wj,Wl,Wm,Wn,Wo,Wp,Ws,Wt,Wu,Wv,Ww,Wx,Wy,Wz,W0,W3,W4,W5,W6,W7,W8,W9,Ya,Yb,Yc,Yd,Ye,Yf,Yg,Yh,Yi,Yj,Yk,Yl,Ym,Yn,Yo,Yr,Ys,Yt,Yu,Yv,Yw,Yx,Yy,Yz,Y1,Y2,Y3,Y4,Y5,Y6,Y7,Y8,Y9,Va,Vb,Vc,Vd,Ve,Vf,Vg,Vh,Vi,Vj,Vk,Vl,Vm,Vn,Vo,Vp,Vq,Vr,Vs,Vt,Vu,Vv,Vw,Vx,Vy,Vz,V0,V1,V2,V3,V4,V5,V6,V7,V8,V9,Ua,Ub,Uc,Ud,Ue,Uf,Ug,Uh,Ui,Uj,Uk,Ul,Um,Un,Uo,Up,Uq,Ur,Us,Ut,Uu,Uv,Uw,Ux,Uy,Uz,U0,U1,U2,U5,U6,U7,U8,U9,Ka,Kb,Kc,Kd,Ke,Kf,Kg,Kh,Ki,Kj,Kk,Kl,Km,Kn,Ko,Kq,Kr,Ks,Kt,Ku,Kv,Kw,Kx,Ky,Kz,K0,K1,K2,K3,K4,K5,K6,K7,Gg,Gi,Gj,Gk,Gl,Gm,Gn,Gp,Gq,Gr,Hg,Nf,H3,Hc,Hb,Sj]
               tactic =>
                try simp only [G6] at *
                try simp only [nc2] at *
                try simp (maxSteps := 4000000) only [hltb,hleb2,hel2,h9,hla,Gt,Gv,Gx,Gu,szN,Gw,Hi]
                repeat' (first | with_reducible assumption | with_reducible refine And.intro ?_ ?_ | intro _ | omega | (rw [Gy]; omega))
                refine ⟨[90000, 90001, 90002], by simp, rfl, Es, ?_⟩
                simp [Nx,lk,rnO,rnA,rnAs,rk])
            | true =>
              cases hrow : Su p with
              | false =>
                have hb : R2 p k x last = false := by simp only [R2, h9, hla, hrow, cond_true, cond_false, Bool.not_true, Bool.not_false]
                rw [hb, cond_false] at hR
                obtain ⟨w, hw⟩ : ∃ w, Ln t f j = w := ⟨_, rfl⟩
                rw [hw] at hR
                obtain ⟨w1, w2⟩ := w
                simp only at hR
                have hp2 : (Pi n).post ⟨t, j, f, d + 1⟩ = Bq t w2 := by rw [treeT_post, hw]
                have hp3 : (Pi n).res ⟨t, j, f, d + 1⟩ = .bool w1 := by rw [treeT_res, hw]
                (sym =>
                 simp [hltb,hleb2,hel2,h9,hla,hrow,Gt,Gv,Gx,Gu,szN,Gw,Nr,Nt,Ns,Nu,Nq,Np,Nb.eq_def,Ng.eq_def,Ni.eq_def,Mg.eq_def,Za,Zb,Zc,Zd,Ze,Zf,Zg,Zn,Zo,Zp,Zq,Zr,Zs,Zt,Zu,Zv,Zw,Zx,Zy,Z5,Z8,Z9,Qa,Qb,Qc,Qd,Qe,Qf,Qg,Qj,Qk,Ql,Qm,Qn,Qo,Qp,Qr,Qs,Qt,Qu,Qv,Qw,Q0,Q1,Q3,Q4,Q8,Q9,Ja,Jf,Jh,Ji,Jj,Jk,Jl,Jm,Jn,Jo,Jp,Jq,Jr,Jt,Jx,Jy,Jz,J0,J1,J2,J5,J6,J7,J8,J9,Xa,Xb,Xc,Xd,Xe,Xf,Xg,Xj,Xk,Xl,Xm,Xn,Xo,Xp,Xq,Xr,Xs,Xt,Xu,Xv,Xw,Xx,Xy,Xz,X1,X2,X3,X4,X5,X6,X7,X8,We,Wf,Wg,Wh,Wi,Wj,Wl,Wm,Wn,Wo,Wp,Ws,Wt,Wu,Wv,Ww,Wx,Wy,Wz,W0,W3,W4,W5,W6,W7,W8,W9,Ya,Yb,Yc,Yd,Ye,Yf,Yg,Yh,Yi,Yj,Yk,Yl,Ym,Yn,Yo,Yr,Ys,Yt,Yu,Yv,Yw,Yx,Yy,Yz,Y1,Y2,Y3,Y4,Y5,Y6,Y7,Y8,Y9,Va,Vb,Vc,Vd,Ve,Vf,Vg,Vh,Vi,Vj,Vk,Vl,Vm,Vn,Vo,Vp,Vq,Vr,Vs,Vt,Vu,Vv,Vw,Vx,Vy,Vz,V0,V1,V2,V3,V4,V5,V6,V7,V8,V9,Ua,Ub,Uc,Ud,Ue,Uf,Ug,Uh,Ui,Uj,Uk,Ul,Um,Un,Uo,Up,Uq,Ur,Us,Ut,Uu,Uv,Uw,Ux,Uy,Uz,U0,U1,U2,U5,U6,U7,U8,U9,Ka,Kb,Kc,Kd,Ke,Kf,Kg,Kh,Ki,Kj,Kk,Kl,Km,Kn,Ko,Kq,Kr,Ks,Kt,Ku,Kv,Kw,Kx,Ky,Kz,K0,K1,K2,K3,K4,K5,K6,K7,Gg,Gi,Gj,Gk,Gl,Gm,Gn,Gp,Gq,Gr,Hg,Nf,H3,Hc,Hb,Sj]
                 tactic =>
                  try simp only [G6] at *
                  try simp only [nc2] at *
                  try simp (maxSteps := 4000000) only [hltb,hleb2,hel2,h9,hla,hrow,Gt,Gv,Gx,Gu,szN,Gw,Hi]
                  repeat' (first | with_reducible assumption | with_reducible refine And.intro ?_ ?_ | intro _ | omega | (rw [Gy]; omega))
                  refine aCallB_of (bc := Pi n) ⟨t, j, f, d + 1⟩ [90000, 90001, 90002] ⟨ht, hN, by simp only; omega, by simp only; omega, by simp only; omega⟩ rfl (by simp) (by rw [hp2]; rfl) ?_ ?_ ?_
                  · show Nx _ _ (Bq t j) _
                    rw [Mx]
                    simp [Nx,lk,rnO,rnA,rnAs,rk]
                  · show Ll (List.drop (Bq t j).length _) _
                    rw [Mx]
                    simp [Ll,lk]
                  cases w1 with
                  | false =>
                    rw [cond_false] at hR
                    injection hR with hr1 hr2
                    subst hr1
                    subst hr2
                    (sym =>
                     simp [hp2,hp3,Mx,Gt,Gv,Gx,Gu,szN,Gw,Nr,Nt,Ns,Nu,Nq,Np,Nb.eq_def,Ng.eq_def,Ni.eq_def,Mg.eq_def,Za,Zb,Zc,Zd,Ze,Zf,Zg,Zn,Zo,Zp,Zq,Zr,Zs,Zt,Zu,Zv,Zw,Zx,Zy,Z5,Z8,Z9,Qa,Qb,Qc,Qd,Qe,Qf,Qg,Qj,Qk,Ql,Qm,Qn,Qo,Qp,Qr,Qs,Qt,Qu,Qv,Qw,Q0,Q1,Q3,Q4,Q8,Q9,Ja,Jf,Jh,Ji,Jj,Jk,Jl,Jm,Jn,Jo,Jp,Jq,Jr,Jt,Jx,Jy,Jz,J0,J1,J2,J5,J6,J7,J8,J9,Xa,Xb,Xc,Xd,Xe,Xf,Xg,Xj,Xk,Xl,Xm,Xn,Xo,Xp,Xq,Xr,Xs,Xt,Xu,Xv,Xw,Xx,Xy,Xz,X1,X2,X3,X4,X5,X6,X7,X8,We,Wf,Wg,Wh,Wi,Wj,Wl,Wm,Wn,Wo,Wp,Ws,Wt,Wu,Wv,Ww,Wx,Wy,Wz,W0,W3,W4,W5,W6,W7,W8,W9,Ya,Yb,Yc,Yd,Ye,Yf,Yg,Yh,Yi,Yj,Yk,Yl,Ym,Yn,Yo,Yr,Ys,Yt,Yu,Yv,Yw,Yx,Yy,Yz,Y1,Y2,Y3,Y4,Y5,Y6,Y7,Y8,Y9,Va,Vb,Vc,Vd,Ve,Vf,Vg,Vh,Vi,Vj,Vk,Vl,Vm,Vn,Vo,Vp,Vq,Vr,Vs,Vt,Vu,Vv,Vw,Vx,Vy,Vz,V0,V1,V2,V3,V4,V5,V6,V7,V8,V9,Ua,Ub,Uc,Ud,Ue,Uf,Ug,Uh,Ui,Uj,Uk,Ul,Um,Un,Uo,Up,Uq,Ur,Us,Ut,Uu,Uv,Uw,Ux,Uy,Uz,U0,U1,U2,U5,U6,U7,U8,U9,Ka,Kb,Kc,Kd,Ke,Kf,Kg,Kh,Ki,Kj,Kk,Kl,Km,Kn,Ko,Kq,Kr,Ks,Kt,Ku,Kv,Kw,Kx,Ky,Kz,K0,K1,K2,K3,K4,K5,K6,K7,Gg,Gi,Gj,Gk,Gl,Gm,Gn,Gp,Gq,Gr,Hg,Nf,H3,Hc,Hb,Sj]
                     tactic =>
                      try simp only [G6] at *
                      try simp only [nc2] at *
                      try simp (maxSteps := 4000000) only [hp2,hp3,Mx,Gt,Gv,Gx,Gu,szN,Gw,Hi]
                      repeat' (first | with_reducible assumption | with_reducible refine And.intro ?_ ?_ | intro _ | omega | (rw [Gy]; omega))
                      refine ⟨[90000, 90001, 90002], by simp, rfl, Es, ?_⟩
                      simp [Nx,lk,rnO,rnA,rnAs,rk])
                  | true =>
                    rw [cond_true] at hR
                    (sym =>
                     simp [hp2,hp3,Mx,Gt,Gv,Gx,Gu,szN,Gw,Nr,Nt,Ns,Nu,Nq,Np,Nb.eq_def,Ng.eq_def,Ni.eq_def,Mg.eq_def,Za,Zb,Zc,Zd,Ze,Zf,Zg,Zn,Zo,Zp,Zq,Zr,Zs,Zt,Zu,Zv,Zw,Zx,Zy,Z5,Z8,Z9,Qa,Qb,Qc,Qd,Qe,Qf,Qg,Qj,Qk,Ql,Qm,Qn,Qo,Qp,Qr,Qs,Qt,Qu,Qv,Qw,Q0,Q1,Q3,Q4,Q8,Q9,Ja,Jf,Jh,Ji,Jj,Jk,Jl,Jm,Jn,Jo,Jp,Jq,Jr,Jt,Jx,Jy,Jz,J0,J1,J2,J5,J6,J7,J8,J9,Xa,Xb,Xc,Xd,Xe,Xf,Xg,Xj,Xk,Xl,Xm,Xn,Xo,Xp,Xq,Xr,Xs,Xt,Xu,Xv,Xw,Xx,Xy,Xz,X1,X2,X3,X4,X5,X6,X7,X8,We,Wf,Wg,Wh,Wi,Wj,Wl,Wm,Wn,Wo,Wp,Ws,Wt,Wu,Wv,Ww,Wx,Wy,Wz,W0,W3,W4,W5,W6,W7,W8,W9,Ya,Yb,Yc,Yd,Ye,Yf,Yg,Yh,Yi,Yj,Yk,Yl,Ym,Yn,Yo,Yr,Ys,Yt,Yu,Yv,Yw,Yx,Yy,Yz,Y1,Y2,Y3,Y4,Y5,Y6,Y7,Y8,Y9,Va,Vb,Vc,Vd,Ve,Vf,Vg,Vh,Vi,Vj,Vk,Vl,Vm,Vn,Vo,Vp,Vq,Vr,Vs,Vt,Vu,Vv,Vw,Vx,Vy,Vz,V0,V1,V2,V3,V4,V5,V6,V7,V8,V9,Ua,Ub,Uc,Ud,Ue,Uf,Ug,Uh,Ui,Uj,Uk,Ul,Um,Un,Uo,Up,Uq,Ur,Us,Ut,Uu,Uv,Uw,Ux,Uy,Uz,U0,U1,U2,U5,U6,U7,U8,U9,Ka,Kb,Kc,Kd,Ke,Kf,Kg,Kh,Ki,Kj,Kk,Kl,Km,Kn,Ko,Kq,Kr,Ks,Kt,Ku,Kv,Kw,Kx,Ky,Kz,K0,K1,K2,K3,K4,K5,K6,K7,Gg,Gi,Gj,Gk,Gl,Gm,Gn,Gp,Gq,Gr,Hg,Nf,H3,Hc,Hb,Sj]
                     tactic =>
                      try simp only [G6] at *
                      try simp only [nc2] at *
                      try simp (maxSteps := 4000000) only [hp2,hp3,Mx,Gt,Gv,Gx,Gu,szN,Gw,Hi]
                      repeat' (first | with_reducible assumption | with_reducible refine And.intro ?_ ?_ | intro _ | omega | (rw [Gy]; omega))
                      refine ⟨(k + 1, x.name, w2), by ((try simp only [G3, Ha, G5, Hf, upd, Hh, Hn, Na, Nat.reduceDiv, Nat.reduceMod, Nat.reduceMul, Nat.reduceAdd, Nat.reduceEqDiff, List.set_cons_zero, List.set_cons_succ, if_true, if_false, reduceIte]); (first | refine Wk.of_fl ?_ | skip); simp only [Wk, wkK, Nd, wkT, wk1, AV.kept, keptAll, wkO, lk, G4, and_true, true_and, and_self, Nat.reduceEqDiff, Nat.reduceLeDiff, if_true, if_false, reduceIte, reduceCtorEq, Option.isSome, false_implies]; try simp [Wk, wkK, wkT, wk1, AV.kept, keptAll, wkO, lk, G4]), by simp only; omega, ?_, by simp only; omega⟩
                      simp only
                      rw [show ar p - (k + 1) = m by omega]
                      exact hR))
              | true =>
                cases hlq : (Op.bytesLess x.name last || x.name == last) with
                | true =>
                  have hb : R2 p k x last = true := by simp only [R2, h9, hla, hrow, hlq, cond_true, cond_false, Bool.not_true, Bool.not_false]
                  rw [hb, cond_true] at hR
                  injection hR with hr1 hr2
                  subst hr1
                  subst hr2
                  (sym =>
                   simp [hltb,hleb2,hel2,h9,hla,hrow,hlq,Gt,Gv,Gx,Gu,szN,Gw,Nr,Nt,Ns,Nu,Nq,Np,Nb.eq_def,Ng.eq_def,Ni.eq_def,Mg.eq_def,Za,Zb,Zc,Zd,Ze,Zf,Zg,Zn,Zo,Zp,Zq,Zr,Zs,Zt,Zu,Zv,Zw,Zx,Zy,Z5,Z8,Z9,Qa,Qb,Qc,Qd,Qe,Qf,Qg,Qj,Qk,Ql,Qm,Qn,Qo,Qp,Qr,Qs,Qt,Qu,Qv,Qw,Q0,Q1,Q3,Q4,Q8,Q9,Ja,Jf,Jh,Ji,Jj,Jk,Jl,Jm,Jn,Jo,Jp,Jq,Jr,Jt,Jx,Jy,Jz,J0,J1,J2,J5,J6,J7,J8,J9,Xa,Xb,Xc,Xd,Xe,Xf,Xg,Xj,Xk,Xl,Xm,Xn,Xo,Xp,Xq,Xr,Xs,Xt,Xu,Xv,Xw,Xx,Xy,Xz,X1,X2,X3,X4,X5,X6,X7,X8,We,Wf,Wg,Wh,Wi,Wj,Wl,Wm,Wn,Wo,Wp,Ws,Wt,Wu,Wv,Ww,Wx,Wy,Wz,W0,W3,W4,W5,W6,W7,W8,W9,Ya,Yb,Yc,Yd,Ye,Yf,Yg,Yh,Yi,Yj,Yk,Yl,Ym,Yn,Yo,Yr,Ys,Yt,Yu,Yv,Yw,Yx,Yy,Yz,Y1,Y2,Y3,Y4,Y5,Y6,Y7,Y8,Y9,Va,Vb,Vc,Vd,Ve,Vf,Vg,Vh,Vi,Vj,Vk,Vl,Vm,Vn,Vo,Vp,Vq,Vr,Vs,Vt,Vu,Vv,Vw,Vx,Vy,Vz,V0,V1,V2,V3,V4,V5,V6,V7,V8,V9,Ua,Ub,Uc,Ud,Ue,Uf,Ug,Uh,Ui,Uj,Uk,Ul,Um,Un,Uo,Up,Uq,Ur,Us,Ut,Uu,Uv,Uw,Ux,Uy,Uz,U0,U1,U2,U5,U6,U7,U8,U9,Ka,Kb,Kc,Kd,Ke,Kf,Kg,Kh,Ki,Kj,Kk,Kl,Km,Kn,Ko,Kq,Kr,Ks,Kt,Ku,Kv,Kw,Kx,Ky,Kz,K0,K1,K2,K3,K4,K5,K6,K7,Gg,Gi,Gj,Gk,Gl,Gm,Gn,Gp,Gq,Gr,Hg,Nf,H3,Hc,Hb,Sj]
                   tactic =>
                    try simp only [G6] at *
                    try simp only [nc2] at *
                    try simp (maxSteps := 4000000) only [hltb,hleb2,hel2,h9,hla,hrow,hlq,Gt,Gv,Gx,Gu,szN,Gw,Hi]
                    repeat' (first | with_reducible assumption | with_reducible refine And.intro ?_ ?_ | intro _ | omega | (rw [Gy]; omega))
                    refine ⟨[90000, 90001, 90002], by simp, rfl, Es, ?_⟩
                    simp [Nx,lk,rnO,rnA,rnAs,rk])
                | false =>
                  have hb : R2 p k x last = false := by simp only [R2, h9, hla, hrow, hlq, cond_true, cond_false, Bool.not_true, Bool.not_false]
                  rw [hb, cond_false] at hR
                  obtain ⟨w, hw⟩ : ∃ w, Ln t f j = w := ⟨_, rfl⟩
                  rw [hw] at hR
                  obtain ⟨w1, w2⟩ := w
                  simp only at hR
                  have hp2 : (Pi n).post ⟨t, j, f, d + 1⟩ = Bq t w2 := by rw [treeT_post, hw]
                  have hp3 : (Pi n).res ⟨t, j, f, d + 1⟩ = .bool w1 := by rw [treeT_res, hw]
                  (sym =>
                   simp [hltb,hleb2,hel2,h9,hla,hrow,hlq,Gt,Gv,Gx,Gu,szN,Gw,Nr,Nt,Ns,Nu,Nq,Np,Nb.eq_def,Ng.eq_def,Ni.eq_def,Mg.eq_def,Za,Zb,Zc,Zd,Ze,Zf,Zg,Zn,Zo,Zp,Zq,Zr,Zs,Zt,Zu,Zv,Zw,Zx,Zy,Z5,Z8,Z9,Qa,Qb,Qc,Qd,Qe,Qf,Qg,Qj,Qk,Ql,Qm,Qn,Qo,Qp,Qr,Qs,Qt,Qu,Qv,Qw,Q0,Q1,Q3,Q4,Q8,Q9,Ja,Jf,Jh,Ji,Jj,Jk,Jl,Jm,Jn,Jo,Jp,Jq,Jr,Jt,Jx,Jy,Jz,J0,J1,J2,J5,J6,J7,J8,J9,Xa,Xb,Xc,Xd,Xe,Xf,Xg,Xj,Xk,Xl,Xm,Xn,Xo,Xp,Xq,Xr,Xs,Xt,Xu,Xv,Xw,Xx,Xy,Xz,X1,X2,X3,X4,X5,X6,X7,X8,We,Wf,Wg,Wh,Wi,Wj,Wl,Wm,Wn,Wo,Wp,Ws,Wt,Wu,Wv,Ww,Wx,Wy,Wz,W0,W3,W4,W5,W6,W7,W8,W9,Ya,Yb,Yc,Yd,Ye,Yf,Yg,Yh,Yi,Yj,Yk,Yl,Ym,Yn,Yo,Yr,Ys,Yt,Yu,Yv,Yw,Yx,Yy,Yz,Y1,Y2,Y3,Y4,Y5,Y6,Y7,Y8,Y9,Va,Vb,Vc,Vd,Ve,Vf,Vg,Vh,Vi,Vj,Vk,Vl,Vm,Vn,Vo,Vp,Vq,Vr,Vs,Vt,Vu,Vv,Vw,Vx,Vy,Vz,V0,V1,V2,V3,V4,V5,V6,V7,V8,V9,Ua,Ub,Uc,Ud,Ue,Uf,Ug,Uh,Ui,Uj,Uk,Ul,Um,Un,Uo,Up,Uq,Ur,Us,Ut,Uu,Uv,Uw,Ux,Uy,Uz,U0,U1,U2,U5,U6,U7,U8,U9,Ka,Kb,Kc,Kd,Ke,Kf,Kg,Kh,Ki,Kj,Kk,Kl,Km,Kn,Ko,Kq,Kr,Ks,Kt,Ku,Kv,Kw,Kx,Ky,Kz,K0,K1,K2,K3,K4,K5,K6,K7,Gg,Gi,Gj,Gk,Gl,Gm,Gn,Gp,Gq,Gr,Hg,Nf,H3,Hc,Hb,Sj]
                   tactic =>
                    try simp only [G6] at *
                    try simp only [nc2] at *
                    try simp (maxSteps := 4000000) only [hltb,hleb2,hel2,h9,hla,hrow,hlq,Gt,Gv,Gx,Gu,szN,Gw,Hi]
                    repeat' (first | with_reducible assumption | with_reducible refine And.intro ?_ ?_ | intro _ | omega | (rw [Gy]; omega))
                    refine aCallB_of (bc := Pi n) ⟨t, j, f, d + 1⟩ [90000, 90001, 90002] ⟨ht, hN, by simp only; omega, by simp only; omega, by simp only; omega⟩ rfl (by simp) (by rw [hp2]; rfl) ?_ ?_ ?_
                    · show Nx _ _ (Bq t j) _
                      rw [Mx]
                      simp [Nx,lk,rnO,rnA,rnAs,rk]
                    · show Ll (List.drop (Bq t j).length _) _
                      rw [Mx]
                      simp [Ll,lk]
                    cases w1 with
                    | false =>
                      rw [cond_false] at hR
                      injection hR with hr1 hr2
                      subst hr1
                      subst hr2
                      (sym =>
                       simp [hp2,hp3,Mx,Gt,Gv,Gx,Gu,szN,Gw,Nr,Nt,Ns,Nu,Nq,Np,Nb.eq_def,Ng.eq_def,Ni.eq_def,Mg.eq_def,Za,Zb,Zc,Zd,Ze,Zf,Zg,Zn,Zo,Zp,Zq,Zr,Zs,Zt,Zu,Zv,Zw,Zx,Zy,Z5,Z8,Z9,Qa,Qb,Qc,Qd,Qe,Qf,Qg,Qj,Qk,Ql,Qm,Qn,Qo,Qp,Qr,Qs,Qt,Qu,Qv,Qw,Q0,Q1,Q3,Q4,Q8,Q9,Ja,Jf,Jh,Ji,Jj,Jk,Jl,Jm,Jn,Jo,Jp,Jq,Jr,Jt,Jx,Jy,Jz,J0,J1,J2,J5,J6,J7,J8,J9,Xa,Xb,Xc,Xd,Xe,Xf,Xg,Xj,Xk,Xl,Xm,Xn,Xo,Xp,Xq,Xr,Xs,Xt,Xu,Xv,Xw,Xx,Xy,Xz,X1,X2,X3,X4,X5,X6,X7,X8,We,Wf,Wg,Wh,Wi,Wj,Wl,Wm,Wn,Wo,Wp,Ws,Wt,Wu,Wv,Ww,Wx,Wy,Wz,W0,W3,W4,W5,W6,W7,W8,W9,Ya,Yb,Yc,Yd,Ye,Yf,Yg,Yh,Yi,Yj,Yk,Yl,Ym,Yn,Yo,Yr,Ys,Yt,Yu,Yv,Yw,Yx,Yy,Yz,Y1,Y2,Y3,Y4,Y5,Y6,Y7,Y8,Y9,Va,Vb,Vc,Vd,Ve,Vf,Vg,Vh,Vi,Vj,Vk,Vl,Vm,Vn,Vo,Vp,Vq,Vr,Vs,Vt,Vu,Vv,Vw,Vx,Vy,Vz,V0,V1,V2,V3,V4,V5,V6,V7,V8,V9,Ua,Ub,Uc,Ud,Ue,Uf,Ug,Uh,Ui,Uj,Uk,Ul,Um,Un,Uo,Up,Uq,Ur,Us,Ut,Uu,Uv,Uw,Ux,Uy,Uz,U0,U1,U2,U5,U6,U7,U8,U9,Ka,Kb,Kc,Kd,Ke,Kf,Kg,Kh,Ki,Kj,Kk,Kl,Km,Kn,Ko,Kq,Kr,Ks,Kt,Ku,Kv,Kw,Kx,Ky,Kz,K0,K1,K2,K3,K4,K5,K6,K7,Gg,Gi,Gj,Gk,Gl,Gm,Gn,Gp,Gq,Gr,Hg,Nf,H3,Hc,Hb,Sj]
                       tactic =>
                        try simp only [G6] at *
                        try simp only [nc2] at *
                        try simp (maxSteps := 4000000) only [hp2,hp3,Mx,Gt,Gv,Gx,Gu,szN,Gw,Hi]
                        repeat' (first | with_reducible assumption | with_reducible refine And.intro ?_ ?_ | intro _ | omega | (rw [Gy]; omega))
                        refine ⟨[90000, 90001, 90002], by simp, rfl, Es, ?_⟩
                        simp [Nx,lk,rnO,rnA,rnAs,rk])
                    | true =>
                      rw [cond_true] at hR
                      (sym =>
                       simp [hp2,hp3,Mx,Gt,Gv,Gx,Gu,szN,Gw,Nr,Nt,Ns,Nu,Nq,Np,Nb.eq_def,Ng.eq_def,Ni.eq_def,Mg.eq_def,Za,Zb,Zc,Zd,Ze,Zf,Zg,Zn,Zo,Zp,Zq,Zr,Zs,Zt,Zu,Zv,Zw,Zx,Zy,Z5,Z8,Z9,Qa,Qb,Qc,Qd,Qe,Qf,Qg,Qj,Qk,Ql,Qm,Qn,Qo,Qp,Qr,Qs,Qt,Qu,Qv,Qw,Q0,Q1,Q3,Q4,Q8,Q9,Ja,Jf,Jh,Ji,Jj,Jk,Jl,Jm,Jn,Jo,Jp,Jq,Jr,Jt,Jx,Jy,Jz,J0,J1,J2,J5,J6,J7,J8,J9,Xa,Xb,Xc,Xd,Xe,Xf,Xg,Xj,Xk,Xl,Xm,Xn,Xo,Xp,Xq,Xr,Xs,Xt,Xu,Xv,Xw,Xx,Xy,Xz,X1,X2,X3,X4,X5,X6,X7,X8,We,Wf,Wg,Wh,Wi,Wj,Wl,Wm,Wn,Wo,Wp,Ws,Wt,Wu,Wv,Ww,Wx,Wy,Wz,W0,W3,W4,W5,W6,W7,W8,W9,Ya,Yb,Yc,Yd,Ye,Yf,Yg,Yh,Yi,Yj,Yk,Yl,Ym,Yn,Yo,Yr,Ys,Yt,Yu,Yv,Yw,Yx,Yy,Yz,Y1,Y2,Y3,Y4,Y5,Y6,Y7,Y8,Y9,Va,Vb,Vc,Vd,Ve,Vf,Vg,Vh,Vi,Vj,Vk,Vl,Vm,Vn,Vo,Vp,Vq,Vr,Vs,Vt,Vu,Vv,Vw,Vx,Vy,Vz,V0,V1,V2,V3,V4,V5,V6,V7,V8,V9,Ua,Ub,Uc,Ud,Ue,Uf,Ug,Uh,Ui,Uj,Uk,Ul,Um,Un,Uo,Up,Uq,Ur,Us,Ut,Uu,Uv,Uw,Ux,Uy,Uz,U0,U1,U2,U5,U6,U7,U8,U9,Ka,Kb,Kc,Kd,Ke,Kf,Kg,Kh,Ki,Kj,Kk,Kl,Km,Kn,Ko,Kq,Kr,Ks,Kt,Ku,Kv,Kw,Kx,Ky,Kz,K0,K1,K2,K3,K4,K5,K6,K7,Gg,Gi,Gj,Gk,Gl,Gm,Gn,Gp,Gq,Gr,Hg,Nf,H3,Hc,Hb,Sj]
                       tactic =>
                        try simp only [G6] at *
                        try simp only [nc2] at *
                        try simp (maxSteps := 4000000) only [hp2,hp3,Mx,Gt,Gv,Gx,Gu,szN,Gw,Hi]
                        repeat' (first | with_reducible assumption | with_reducible refine And.intro ?_ ?_ | intro _ | omega | (rw [Gy]; omega))
                        refine ⟨(k + 1, x.name, w2), by ((try simp only [G3, Ha, G5, Hf, upd, Hh, Hn, Na, Nat.reduceDiv, Nat.reduceMod, Nat.reduceMul, Nat.reduceAdd, Nat.reduceEqDiff, List.set_cons_zero, List.set_cons_succ, if_true, if_false, reduceIte]); (first | refine Wk.of_fl ?_ | skip); simp only [Wk, wkK, Nd, wkT, wk1, AV.kept, keptAll, wkO, lk, G4, and_true, true_and, and_self, Nat.reduceEqDiff, Nat.reduceLeDiff, if_true, if_false, reduceIte, reduceCtorEq, Option.isSome, false_implies]; try simp [Wk, wkK, wkT, wk1, AV.kept, keptAll, wkO, lk, G4]), by simp only; omega, ?_, by simp only; omega⟩
                        simp only
                        rw [show ar p - (k + 1) = m by omega]
                        exact hR))
        · have hz : ar p - k = 0 := by omega
          rw [hz, Ov] at hR
          injection hR with hr1 hr2
          subst hr1
          subst hr2
          (sym =>
           simp [hltb,Gt,Gv,Gx,Gu,szN,Gw,Nr,Nt,Ns,Nu,Nq,Np,Nb.eq_def,Ng.eq_def,Ni.eq_def,Mg.eq_def,Za,Zb,Zc,Zd,Ze,Zf,Zg,Zn,Zo,Zp,Zq,Zr,Zs,Zt,Zu,Zv,Zw,Zx,Zy,Z5,Z8,Z9,Qa,Qb,Qc,Qd,Qe,Qf,Qg,Qj,Qk,Ql,Qm,Qn,Qo,Qp,Qr,Qs,Qt,Qu,Qv,Qw,Q0,Q1,Q3,Q4,Q8,Q9,Ja,Jf,Jh,Ji,Jj,Jk,Jl,Jm,Jn,Jo,Jp,Jq,Jr,Jt,Jx,Jy,Jz,J0,J1,J2,J5,J6,J7,J8,J9,Xa,Xb,Xc,Xd,Xe,Xf,Xg,Xj,Xk,Xl,Xm,Xn,Xo,Xp,Xq,Xr,Xs,Xt,Xu,Xv,Xw,Xx,Xy,Xz,X1,X2,X3,X4,X5,X6,X7,X8,We,Wf,Wg,Wh,Wi,Wj,Wl,Wm,Wn,Wo,Wp,Ws,Wt,Wu,Wv,Ww,Wx,Wy,Wz,W0,W3,W4,W5,W6,W7,W8,W9,Ya,Yb,Yc,Yd,Ye,Yf,Yg,Yh,Yi,Yj,Yk,Yl,Ym,Yn,Yo,Yr,Ys,Yt,Yu,Yv,Yw,Yx,Yy,Yz,Y1,Y2,Y3,Y4,Y5,Y6,Y7,Y8,Y9,Va,Vb,Vc,Vd,Ve,Vf,Vg,Vh,Vi,Vj,Vk,Vl,Vm,Vn,Vo,Vp,Vq,Vr,Vs,Vt,Vu,Vv,Vw,Vx,Vy,Vz,V0,V1,V2,V3,V4,V5,V6,V7,V8,V9,Ua,Ub,Uc,Ud,Ue,Uf,Ug,Uh,Ui,Uj,Uk,Ul,Um,Un,Uo,Up,Uq,Ur,Us,Ut,Uu,Uv,Uw,Ux,Uy,Uz,U0,U1,U2,U5,U6,U7,U8,U9,Ka,Kb,Kc,Kd,Ke,Kf,Kg,Kh,Ki,Kj,Kk,Kl,Km,Kn,Ko,Kq,Kr,Ks,Kt,Ku,Kv,Kw,Kx,Ky,Kz,K0,K1,K2,K3,K4,K5,K6,K7,Gg,Gi,Gj,Gk,Gl,Gm,Gn,Gp,Gq,Gr,Hg,Nf,H3,Hc,Hb,Sj]
           tactic =>
            try simp only [G6] at *
            try simp only [nc2] at *
            try simp (maxSteps := 4000000) only [hltb,Gt,Gv,Gx,Gu,szN,Gw,Hi]
            repeat' (first | with_reducible assumption | with_reducible refine And.intro ?_ ?_ | intro _ | omega | (rw [Gy]; omega))
            refine ⟨[90000, 90001, 90002], by simp, rfl, Es, ?_⟩
            simp [Nx,lk,rnO,rnA,rnAs,rk]))
theorem goodbn_treeT : ∀ n, GoodB Try.prog (40, Pi n)
  | 0 => goodb_void (He Try.func40 (by kernel_rfl) rfl) bcon_treeT_zero
  | n + 1 => stepb_treeT n (goodbn_treeT n)
end Go.Am.Ty
