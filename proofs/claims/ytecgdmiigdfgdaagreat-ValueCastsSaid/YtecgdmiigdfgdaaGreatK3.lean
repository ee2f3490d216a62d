/- Contracts of functions that the law reaches, and plain laws. Conditions: those that each contract states. -/
import Derived.Test.YtecgdmiigdfgdaaGreatK2
import Derived.Lib.OthersKept
import Derived.WalkKit
import Derived.WalkSmall
import Derived.BigCall
import Derived.Sort.Walk0
set_option linter.unusedSimpArgs false
set_option linter.unusedVariables false
set_option maxHeartbeats 0
namespace Go.Am.Ty
open Go.Proofs
open Enc (enc dec)
abbrev n0 : Node := ⟨0, [], 0⟩
def Il (n : Node) : Bool := n.kind == 6 || n.kind == 7
def labK (p x prev : Node) (pos last : Bool) : Bool :=
  cond (x.kind == 9) (Il p && (last && x.name == []))
    (!((p.kind == 6 && !D2 x.name) || (p.kind == 7 && !isTag x.name)) && (!(!Il p && !(x.name == [])) && !(Il p && (pos && !Op.bytesLess prev.name x.name))))
def kidAt (t : List Node) (l : List Int) (k : Nat) : Node := t.getD (l.getD k 0).toNat n0
def labAt (t : List Node) (i : Nat) (l : List Int) (k : Nat) : Bool := labK (t.getD i n0) (kidAt t l k) (kidAt t l (k - 1)) (ltB 0 k) ((k : Int) == (l.length : Int) - 1)
def lab3 (t : List Node) (i : Nat) : Bool := (((Cr t i).length : Int) == Pu (t.getD i n0)) && (List.range (Cr t i).length).all fun k => labAt t i (Cr t i) k
def Cz (t : List Node) : Prop := ∀ n ∈ t, n.name.length ≤ 9223372036854775807
theorem kidsFrom_in (t : List Node) : ∀ (m q : Nat), ∀ x ∈ Mn t m q, (q : Int) ≤ x ∧ x < t.length
  | 0, q, x, hx => by simp [Mn] at hx
  | m + 1, q, x, hx => by
    unfold Mn at hx
    split at hx
    · rcases List.mem_cons.1 hx with rfl | hx
      · omega
      · have := kidsFrom_in t m _ x hx
        omega
    · cases hx
theorem kids3_in {t : List Node} {i : Nat} : ∀ x ∈ Cr t i, (i : Int) < x ∧ x < t.length := by
  intro x hx
  unfold Cr at hx
  split at hx
  · cases hx
  · have := kidsFrom_in t _ _ x hx
    omega
theorem kidsFrom_len (t : List Node) : ∀ (m q : Nat), (Mn t m q).length ≤ m
  | 0, q => by simp [Mn]
  | m + 1, q => by
    unfold Mn
    split
    · simp only [List.length_cons]
      have := kidsFrom_len t m (q + eat (t.drop q) 1)
      omega
    · simp
def Po : Con := Bg (fun (t : Sl Node) (i : Int) => Tame t.l ∧ Cz t.l ∧ 0 ≤ i ∧ i < t.l.length) (fun t i => lab3 t.l i.toNat)
noncomputable def S0 : Ctx := ⟨tab, lkC [(42, Mx), (68, Ng), (69, N0), (84, B4)], 60, lkB [], [], false⟩
theorem Rl : S0.τ = tab := rfl
theorem ctx_labelled3_c : S0.Γ = lkC [(42, Mx), (68, Ng), (69, N0), (84, B4)] := rfl
theorem Rm : S0.dp = 60 := rfl
theorem ctx_labelled3_b : S0.Δ = lkB [] := rfl
theorem ctx_labelled3_w : S0.wr = false := rfl
set_option maxRecDepth 100000 in
theorem good_labelled3 : Gj Tryz.prog (66, Po) := by
  refine ⟨U7 Tryz.func66 (by kernel_rfl) rfl, ?_⟩
  have K : Ky Tryz.prog S0 := Kd K6 Ki (by
    intro p hp
    simp only [List.mem_cons, List.not_mem_nil, or_false] at hp
    rcases hp with rfl | rfl | rfl | rfl
    · exact good_Kids3
    · exact good_IsWord1
    · exact good_many3
    · exact good_IsTag1) (by simp)
  obtain ⟨c, hc⟩ : ∃ c, Tryz.f66.body = some c := ⟨_, rfl⟩
  refine Ke K Tryz.func66 hc [.tmp 4] rfl 123 rfl (fun cvs hpre => ?_)
  change Po.pre cvs at hpre
  unfold Po at hpre
  obtain ⟨⟨t⟩, i, rfl, hT, hN, hi0, hi1⟩ := Gi hpre
  simp only at hT hN hi0 hi1
  obtain ⟨i, rfl⟩ : ∃ n : Nat, i = n := ⟨i.toNat, by omega⟩
  have hil : i < t.length := by omega
  have hlen := hT.1
  obtain ⟨l, hl⟩ : ∃ l, Cr t i = l := ⟨_, rfl⟩
  have hin : ∀ x ∈ l, (i : Int) < x ∧ x < t.length := by rw [← hl]; exact kids3_in
  have hll : l.length ≤ 100000 := by
    rw [← hl]
    unfold Cr
    split
    · simp
    · have h1 := kidsFrom_len t (Pu (t.getD (Int.toNat i) ⟨0, [], 0⟩)).toNat ((Int.toNat i) + 1)
      have h2 := (hT.2 (t.getD i ⟨0, [], 0⟩) (by simp [hil])).2
      simp only [Int.toNat_natCast] at h1 ⊢
      omega
  have hlab : lab3 t i = (((l.length : Int) == Pu (t.getD i n0)) && (List.range l.length).all fun k => labAt t i l k) := by
    unfold lab3
    rw [hl]
  simp only [Tryz.f66, Option.some.injEq] at hc
  subst hc
  refine Kw 7 (of_decide_eq_true (by kernel_rfl)) ?_
  have zz1 := Kf n0 hil
  (sym =>
   simp [hl,zz1,Int.toNat_natCast,Uu,Us,Uv,Ur,szN,Ut,Rl,ctx_labelled3_c,Rm,ctx_labelled3_b,B4.eq_def,Ng.eq_def,Mx.eq_def,Po.eq_def,N0.eq_def,Zb,Zc,Ze,Zf,Zo,Zp,Zq,Zv,Zy,Z6,Z9,Qb,Qd,Qe,Qf,Qn,Qo,Qp,Qq,Qs,Q1,Q2,Q4,Q8,Jf,Jj,Jk,Jl,Jw,J3,J4,J5,J6,J8,J9,Xb,Xc,Xf,Xn,Xo,Xp,Xu,Xv,X3,X4,X6,X7,X8,X9,Wb,Wc,Wf,Wh,Wi,Wj,Wt,Wu,Wv,Ww,Wx,Wy,Wz,W0,W6,W7,Ya,Yb,Ye,Yi,Ym,Yx,Yy,Y0,Y1,Y4,Y7,Y8,Vb,Vc,Vd,Ve,Vf,Vg,Vh,Vj,Vm,Vo,Vt,Vu,V4,V5,Um,Un,Uo,Up,U8,Ku,Kq,U4,U3,H9]
   tactic =>
    try simp only [U1] at *
    try simp only [nc2] at *
    try simp (maxSteps := 4000000) only [hl,zz1,Int.toNat_natCast,Uu,Us,Uv,Ur,szN,Ut,U9]
    repeat' (first | with_reducible assumption | with_reducible refine And.intro ?_ ?_ | intro _ | omega | (rw [U0]; omega))
    · rename_i hne
      rw [hlab]
      rw [show ((l.length : Int) == Pu (t.getD i n0)) = false by simpa using hne]
      rfl
    · rename_i heq
      have hlab' : lab3 t i = (List.range l.length).all fun k => labAt t i l k := by
        rw [hlab, show ((l.length : Int) == Pu (t.getD i n0)) = true by simpa using heq]
        rfl
      refine Km [4, 7, 8, 9, 21, 22, 23, 24, 25, 26, 27, 28, 29, 30, 31, 32, 33, 34, 35, 36, 37, 38, 39, 40, 41, 42, 43, 44, 45, 46, 47, 48, 49, 50, 51, 52, 53, 54, 55, 56, 57, 58, 59, 60, 61, 62, 63, 64, 65, 66, 67, 68, 69, 70, 71, 72, 73, 74, 75, 76, 77, 78, 79, 80, 81, 82, 83, 84, 85, 86, 87, 88, 89, 90, 91, 92, 93, 94, 95, 96, 97, 98, 99, 100, 101, 102, 103, 104, 105, 106, 107, 108, 109, 110, 111, 112, 113, 114, 115, 116, 117, 118, 119, 120, 121, 122] (fun k : Nat => [(6, .d (.int .i64 k))]) (fun k : Nat => []) (fun k : Nat => k ≤ l.length ∧ ∀ j, j < k → labAt t i l j = true) (fun k : Nat => l.length - k) 0 ?_ ?_ ?_
      · simp
      · ((try simp only [U2, Ka, U6, Kg, upd, Kh, Ko, Gd, Nat.reduceDiv, Nat.reduceMod, Nat.reduceMul, Nat.reduceAdd, Nat.reduceEqDiff, List.set_cons_zero, List.set_cons_succ, if_true, if_false, reduceIte]); (first | refine Wk.of_fl ?_ | skip); simp only [Wk, wkK, Gl, wkT, wk1, AV.kept, keptAll, wkO, lk, U5, and_true, true_and, and_self, Nat.reduceEqDiff, Nat.reduceLeDiff, if_true, if_false, reduceIte, reduceCtorEq, Option.isSome, false_implies]; try simp [Wk, wkK, wkT, wk1, AV.kept, keptAll, wkO, lk, U5])
      rintro k ⟨hk, hno⟩
      rcases Ks k l.length with ⟨hlt, hlb⟩ | ⟨hlt, hlb⟩
      · have hki := hin (l.getD k 0) (by simp [hlt])
        have hkt : (l.getD k 0).toNat < t.length := by omega
        have hkn := hN (kidAt t l k) (by
          show t.getD _ n0 ∈ t
          rw [List.getD_eq_getElem?_getD, List.getElem?_eq_getElem hkt]
          exact List.getElem_mem hkt)
        have hyes : labAt t i l k = true → ∀ j, j < k + 1 → labAt t i l j = true := by
          intro h j hj
          by_cases hjk : j = k
          · subst hjk; exact h
          · exact hno j (by omega)
        have hbad : labAt t i l k = false → false = lab3 t i := by
          intro h
          rw [hlab', eq_comm, Bool.eq_false_iff]
          intro hc
          rw [List.all_eq_true] at hc
          have := hc k (List.mem_range.2 hlt)
          rw [h] at this
          cases this
        have ek : t.getD (l.getD k 0).toNat ⟨0, [], 0⟩ = kidAt t l k := rfl
        have hyes : labK (t.getD i n0) (kidAt t l k) (kidAt t l (k - 1)) (ltB 0 k) ((k : Int) == (l.length : Int) - 1) = true → ∀ j, j < k + 1 → labAt t i l j = true := hyes
        have hbad : labK (t.getD i n0) (kidAt t l k) (kidAt t l (k - 1)) (ltB 0 k) ((k : Int) == (l.length : Int) - 1) = false → false = lab3 t i := hbad
        have hprev : t.getD (l.getD (k - 1) 0).toNat ⟨0, [], 0⟩ = kidAt t l (k - 1) := rfl
        obtain ⟨x, hx⟩ : ∃ x, kidAt t l k = x := ⟨_, rfl⟩
        obtain ⟨prev, hp0⟩ : ∃ x, kidAt t l (k - 1) = x := ⟨_, rfl⟩
        obtain ⟨p, hp⟩ : ∃ x, t.getD i n0 = x := ⟨_, rfl⟩
        rw [hx, hp0, hp] at hyes hbad
        rw [hx] at hkn ek
        rw [hp0] at hprev
        have eip : t.getD i ⟨0, [], 0⟩ = p := hp
        have hk1 : k - 1 < l.length := by omega
        have hpi := hin (l.getD (k - 1) 0) (by simp [hk1])
        have hpt : (l.getD (k - 1) 0).toNat < t.length := by omega
        have em : ((k : Int) - 1).toNat = k - 1 := by omega
        have hc : ((p.kind == 6) = true ∧ (p.kind == 7) = false) ∨ ((p.kind == 6) = false ∧ (p.kind == 7) = true) ∨ ((p.kind == 6) = false ∧ (p.kind == 7) = false) := by
          simp only [beq_iff_eq, beq_eq_false_iff_ne, ne_eq]
          omega
        rcases hc with ⟨h6, h7⟩ | ⟨h6, h7⟩ | ⟨h6, h7⟩
        all_goals
          have zz2 := Kf (0 : Int) hlt
          have zz3 := Kf n0 hkt
          have zz4 := Kf n0 hil
          have zz5 := Kf (0 : Int) hk1
          have zz6 := Kf n0 hpt
          (sym =>
           simp [hlb,eip,h6,h7,zz2,zz3,zz4,ek,em,zz5,zz6,hprev,Uu,Us,Uv,Ur,szN,Ut,Rl,ctx_labelled3_c,Rm,ctx_labelled3_b,ctx_labelled3_w,B4.eq_def,Ng.eq_def,Mx.eq_def,N0.eq_def,Zb,Zc,Zd,Ze,Zf,Zg,Zh,Zi,Zj,Zk,Zl,Zm,Zo,Zp,Zq,Zs,Zt,Zu,Zv,Zw,Zx,Zy,Z6,Z9,Qb,Qc,Qd,Qe,Qf,Qk,Ql,Qm,Qn,Qo,Qp,Qq,Qr,Qs,Q1,Q2,Q4,Q5,Q6,Q8,Jf,Jh,Ji,Jj,Jk,Jl,Jy,Jz,J0,J5,J6,J7,J8,J9,Xa,Xb,Xc,Xf,Xp,Xs,Xu,Xv,X3,X4,X5,X6,X7,X8,Wb,Wc,Wd,We,Wf,Wg,Wh,Wi,Wj,Wm,Wp,Wt,Wu,Wv,Ww,Wx,Wz,W0,W3,W4,W5,W6,W7,W8,W9,Ya,Yb,Yd,Ye,Yf,Yg,Yi,Yj,Yk,Ym,Yq,Yt,Yu,Yw,Yx,Yy,Y0,Y1,Y4,Y7,Y8,Y9,Va,Vc,Ve,Vf,Vg,Vi,Vn,Vp,Vq,Vr,Vt,Vu,V4,V5,V6,V8,Uk,Ul,Um,Un,Uo,Up,Uq,U8,Ku,Kq,U4,U3,H9]
           tactic =>
            try simp only [U1] at *
            try simp only [nc2] at *
            try simp (maxSteps := 4000000) only [hlb,eip,h6,h7,zz2,zz3,zz4,ek,em,zz5,zz6,hprev,Uu,Us,Uv,Ur,szN,Ut,U9]
            repeat' (first | with_reducible assumption | with_reducible refine And.intro ?_ ?_ | intro _ | omega | (rw [U0]; omega))
            all_goals first
              | (with_reducible refine Kl ?_; kernel_rfl)
              | exact hbad (by clear hyes hbad heq hlab hlab' hno; simp_all [labK, Il, ltB])
              | exact ⟨k + 1, by ((try simp only [U2, Ka, U6, Kg, upd, Kh, Ko, Gd, Nat.reduceDiv, Nat.reduceMod, Nat.reduceMul, Nat.reduceAdd, Nat.reduceEqDiff, List.set_cons_zero, List.set_cons_succ, if_true, if_false, reduceIte]); (first | refine Wk.of_fl ?_ | skip); simp only [Wk, wkK, Gl, wkT, wk1, AV.kept, keptAll, wkO, lk, U5, and_true, true_and, and_self, Nat.reduceEqDiff, Nat.reduceLeDiff, if_true, if_false, reduceIte, reduceCtorEq, Option.isSome, false_implies]; try simp [Wk, wkK, wkT, wk1, AV.kept, keptAll, wkO, lk, U5]), by omega, hyes (by clear hyes hbad heq hlab hlab' hno; simp_all [labK, Il, ltB]), by omega⟩)
      · (sym =>
         simp [hlb,Uu,Us,Uv,Ur,szN,Ut,Rl,Rm,Zb,Zc,Ze,Zf,Zg,Zo,Z6,Qb,Qd,Qn,Qo,Qp,Qq,Qs,Q1,Q2,Q4,Q8,Jk,Jy,Jz,J0,J5,J6,J8,J9,Xa,Xb,Xc,Xf,X4,X6,X7,Wa,Wb,Wc,Wf,Wh,Wi,Wj,Wt,Wu,Wv,Ww,Ya,Yb,Yd,Ye,Yi,Y0,Y1,Y4,Y7,Y8,Y9,Va,Vt,Vu,V5,Ul,Um,Un,Uo,Up,U8,Ku,Kq,U4,U3,H9]
         tactic =>
          try simp only [U1] at *
          try simp only [nc2] at *
          try simp (maxSteps := 4000000) only [hlb,Uu,Us,Uv,Ur,szN,Ut,U9]
          rw [hlab', eq_comm, List.all_eq_true]
          intro j hj
          exact hno j (by have := List.mem_range.1 hj; omega)))
end Go.Am.Ty
set_option linter.unusedSimpArgs false
set_option linter.unusedVariables false
namespace Go.Rose
inductive Rose (α : Type) where
  | mk (n : α) (ks : List (Rose α))
namespace Rose
variable {α : Type}
def root : Rose α → α
  | mk n _ => n
def kids : Rose α → List (Rose α)
  | mk _ ks => ks
mutual
def nds : Rose α → List α
  | mk n ks => n :: ndss ks
def ndss : List (Rose α) → List α
  | [] => []
  | x :: xs => nds x ++ ndss xs
end
mutual
def wf (ar : α → Nat) : Rose α → Prop
  | mk n ks => ks.length = ar n ∧ wfs ar ks
def wfs (ar : α → Nat) : List (Rose α) → Prop
  | [] => True
  | x :: xs => wf ar x ∧ wfs ar xs
end
mutual
def depth : Rose α → Nat
  | mk _ ks => 1 + depths ks
def depths : List (Rose α) → Nat
  | [] => 0
  | x :: xs => max (depth x) (depths xs)
end
end Rose
open Rose
variable {α : Type} {ar : α → Nat}
theorem Pt : ∀ (a b : List (Rose α)), ndss (a ++ b) = ndss a ++ ndss b
  | [], b => by simp [ndss]
  | x :: a, b => by simp [ndss, Pt a b]
theorem wfs_append : ∀ {a b : List (Rose α)}, wfs ar (a ++ b) ↔ wfs ar a ∧ wfs ar b
  | [], b => by simp [wfs]
  | x :: a, b => by simp only [List.cons_append, wfs, wfs_append (a := a), and_assoc]
theorem Oc : ∀ {a : List (Rose α)}, wfs ar a → ∀ x ∈ a, wf ar x
  | [], _, x, hx => by cases hx
  | y :: a, h, x, hx => by
    rcases List.mem_cons.1 hx with rfl | hx
    · exact h.1
    · exact Oc h.2 x hx
theorem Ho (n : α) (ks : List (Rose α)) : nds (mk n ks) = n :: ndss ks := by simp [nds]
theorem N8 (x : Rose α) : 1 ≤ (nds x).length := by cases x; simp [nds]
theorem Nc (x : Rose α) : nds x = x.root :: ndss x.kids := by cases x; simp [nds, root, kids]
theorem Rh {x : Rose α} : wf ar x ↔ x.kids.length = ar x.root ∧ wfs ar x.kids := by cases x; simp [wf, root, kids]
def S4 (ar : α → Nat) : List α → Nat → Option Nat
  | _, 0 => some 0
  | [], _ + 1 => none
  | n :: l, o + 1 => (S4 ar l (o + ar n)).map (· + 1)
theorem eatN_ndss (ar : α → Nat) : ∀ (m : Nat) (ts : List (Rose α)) (r : List α), (ndss ts).length ≤ m → wfs ar ts → ∀ o, S4 ar (ndss ts ++ r) (ts.length + o) = (S4 ar r o).map (· + (ndss ts).length)
  | m, [], r, _, _, o => by simp [ndss, S4]
  | 0, mk n ks :: ts, r, hm, _, o => by simp [ndss, nds] at hm
  | m + 1, mk n ks :: ts, r, hm, hw, o => by
    obtain ⟨⟨h1, h2⟩, h3⟩ := hw
    simp only [ndss, nds, List.cons_append, List.length_cons, List.length_append] at hm ⊢
    rw [show ts.length + 1 + o = (ts.length + o) + 1 by omega, S4, List.append_assoc]
    rw [show ts.length + o + ar n = ks.length + (ts.length + o) by omega, eatN_ndss ar m ks (ndss ts ++ r) (by omega) h2 (ts.length + o), eatN_ndss ar m ts r (by omega) h3 o]
    cases S4 ar r o with
    | none => rfl
    | some k => simp only [Option.map_some]; congr 1; omega
theorem eatN_nds {x : Rose α} (h : wf ar x) (r : List α) : S4 ar (nds x ++ r) 1 = some (nds x).length := by
  have := eatN_ndss ar _ [x] r (Nat.le_refl _) ⟨h, trivial⟩ 0
  simpa [ndss, S4] using this
theorem ndss_inj : ∀ (m : Nat) {ts us : List (Rose α)} {r s : List α}, (ndss ts).length ≤ m → wfs ar ts → wfs ar us → ts.length = us.length → ndss ts ++ r = ndss us ++ s → ts = us ∧ r = s
  | m, [], us, r, s, _, _, _, hl, h => by
    have : us = [] := List.length_eq_zero_iff.1 hl.symm
    subst this
    exact ⟨rfl, by simpa [ndss] using h⟩
  | m, _ :: _, [], _, _, _, _, _, hl, _ => by simp at hl
  | 0, mk n ks :: ts, _, _, _, hm, _, _, _, _ => by simp [ndss, nds] at hm
  | m + 1, mk n ks :: ts, mk p qs :: us, r, s, hm, ht, hu, hl, h => by
    obtain ⟨⟨h1, h2⟩, h3⟩ := ht
    obtain ⟨⟨g1, g2⟩, g3⟩ := hu
    simp only [ndss, nds, List.cons_append, List.cons.injEq, List.length_cons, List.length_append] at h hm hl
    obtain ⟨rfl, h⟩ := h
    rw [← Pt, ← Pt] at h
    obtain ⟨e1, e2⟩ := ndss_inj m (ts := ks ++ ts) (us := qs ++ us) (by rw [Pt, List.length_append]; omega) (wfs_append.2 ⟨h2, h3⟩) (wfs_append.2 ⟨g2, g3⟩) (by simp only [List.length_append]; omega) h
    obtain ⟨e3, e4⟩ := List.append_inj e1 (by rw [h1, g1])
    exact ⟨by rw [e3, e4], e2⟩
theorem nds_inj {x y : Rose α} {r s : List α} (hx : wf ar x) (hy : wf ar y) (h : nds x ++ r = nds y ++ s) : x = y ∧ r = s := by
  obtain ⟨h1, h2⟩ := ndss_inj (ar := ar) _ (ts := [x]) (us := [y]) (Nat.le_refl _) ⟨hx, trivial⟩ ⟨hy, trivial⟩ rfl (by simpa [ndss] using h)
  injection h1 with h1
  exact ⟨h1, h2⟩
def At (ar : α → Nat) (l : List α) (i : Nat) (x : Rose α) : Prop := wf ar x ∧ ∃ r, l.drop i = nds x ++ r
theorem At.inj {l : List α} {i : Nat} {x y : Rose α} (hx : At ar l i x) (hy : At ar l i y) : x = y := by
  obtain ⟨h1, r, h2⟩ := hx
  obtain ⟨g1, s, g2⟩ := hy
  exact (nds_inj h1 g1 (h2.symm.trans g2)).1
theorem At.le {l : List α} {i : Nat} {x : Rose α} (h : At ar l i x) : i + (nds x).length ≤ l.length := by
  obtain ⟨_, r, h2⟩ := h
  have h3 := congrArg List.length h2
  rw [List.length_drop, List.length_append] at h3
  have := N8 x
  omega
theorem At.lt {l : List α} {i : Nat} {x : Rose α} (h : At ar l i x) : i < l.length := by
  have := h.le
  have := N8 x
  omega
theorem At.root {l : List α} {i : Nat} {x : Rose α} (h : At ar l i x) (d : α) : l.getD i d = x.root := by
  obtain ⟨_, r, h2⟩ := h
  have h3 : (l.drop i).getD 0 d = x.root := by rw [h2, Nc]; rfl
  simpa [List.getD_eq_getElem?_getD] using h3
def Ats (ar : α → Nat) (l : List α) (i : Nat) (xs : List (Rose α)) : Prop := wfs ar xs ∧ ∃ r, l.drop i = ndss xs ++ r
theorem At.kids {l : List α} {i : Nat} {x : Rose α} (h : At ar l i x) : Ats ar l (i + 1) x.kids ∧ x.kids.length = ar x.root := by
  obtain ⟨h1, r, h2⟩ := h
  rw [Rh] at h1
  refine ⟨⟨h1.2, r, ?_⟩, h1.1⟩
  rw [Nc] at h2
  have h3 : (l.drop i).drop 1 = (ndss x.kids ++ r) := by rw [h2]; rfl
  rwa [List.drop_drop] at h3
theorem Ats.head {l : List α} {i : Nat} {x : Rose α} {xs : List (Rose α)} (h : Ats ar l i (x :: xs)) : At ar l i x ∧ Ats ar l (i + (nds x).length) xs := by
  obtain ⟨⟨h1, h2⟩, r, h3⟩ := h
  refine ⟨⟨h1, ndss xs ++ r, by rw [h3]; simp [ndss]⟩, h2, r, ?_⟩
  rw [← List.drop_drop, h3]
  simp [ndss]
theorem Ns {x : Rose α} (h : wf ar x) : At ar (nds x) 0 x := ⟨h, [], by simp⟩
theorem at_eatN {l : List α} {i : Nat} {x : Rose α} (h : At ar l i x) : S4 ar (l.drop i) 1 = some (nds x).length := by
  obtain ⟨h1, r, h2⟩ := h
  rw [h2]
  exact eatN_nds h1 r
open Classical in
noncomputable def K1 [Inhabited α] (ar : α → Nat) (l : List α) (i : Nat) : Rose α := if h : ∃ x, At ar l i x then Classical.choose h else mk default []
theorem Gq [Inhabited α] {l : List α} {i : Nat} {x : Rose α} (h : At ar l i x) : K1 ar l i = x := by
  unfold K1
  rw [dif_pos ⟨x, h⟩]
  exact At.inj (Classical.choose_spec (⟨x, h⟩ : ∃ x, At ar l i x)) h
end Go.Rose
set_option linter.unusedSimpArgs false
set_option linter.unusedVariables false
set_option maxHeartbeats 1000000
namespace Go.Am.Ty
open Go.Proofs
open Enc (enc dec)
theorem numb3_tame {n : Node} (h : B5 n = true) : 0 ≤ Pu n ∧ Pu n ≤ 50 := by
  unfold B5 at h
  unfold Pu
  by_cases h5 : n.kind = 5
  · rw [if_pos h5]; omega
  · rw [if_neg h5]
    by_cases h67 : n.kind = 6 ∨ n.kind = 7
    · rw [if_pos h67]
      rw [if_neg (by omega), if_neg (by omega)] at h
      by_cases h6 : n.kind = 6
      · rw [if_pos h6] at h
        simpa using h
      · rw [if_neg h6, if_pos (by omega)] at h
        simp only [Bool.and_eq_true, decide_eq_true_eq] at h
        omega
    · rw [if_neg h67]; omega
def Ny (t : List Node) : Bool := t.length == 0 || ltB 10000 t.length || !((t.getD 0 n0).name == []) || (t.getD 0 n0).kind == 9
def P8 (t : List Node) : Bool := !Ny t && (t.all B5 && ((end3 t 0 == (t.length : Int) && A0 t) && (List.range t.length).all fun i => lab3 t i))
theorem T2 {p : Nat → Bool} {n : Nat} (h : ∀ j, j < n → p j = true) : (List.range n).all p = true := by
  rw [List.all_eq_true]
  intro j hj
  exact h j (List.mem_range.1 hj)
theorem Cq {p : Nat → Bool} {n : Nat} (j : Nat) (hj : j < n) (h : p j = false) : (List.range n).all p = false := by
  rw [Bool.eq_false_iff]
  intro hc
  rw [List.all_eq_true] at hc
  have := hc j (List.mem_range.2 hj)
  rw [h] at this
  cases this
def Hv : Con := Ss (fun (t : Sl Node) => t.l.length ≤ 9223372036854775807 ∧ Cz t.l) (fun t => P8 t.l)
noncomputable def E7 : Ctx := ⟨tab, lkC [(63, Pn), (64, Pz), (65, Bo), (66, Po)], 60, lkB [], [], false⟩
theorem Cd : E7.τ = tab := rfl
theorem ctx_Right3_c : E7.Γ = lkC [(63, Pn), (64, Pz), (65, Bo), (66, Po)] := rfl
theorem Ce : E7.dp = 60 := rfl
theorem ctx_Right3_b : E7.Δ = lkB [] := rfl
theorem ctx_Right3_w : E7.wr = false := rfl
set_option maxRecDepth 100000 in
theorem good_Right3 : Gj Tryz.prog (39, Hv) := by
  refine ⟨U7 Tryz.func39 (by kernel_rfl) rfl, ?_⟩
  have K : Ky Tryz.prog E7 := Kd K6 Ki (by
    intro p hp
    simp only [List.mem_cons, List.not_mem_nil, or_false] at hp
    rcases hp with rfl | rfl | rfl | rfl
    · exact good_numbered3
    · exact good_End3
    · exact good_shallow3
    · exact good_labelled3) (by simp)
  obtain ⟨c, hc⟩ : ∃ c, Tryz.f39.body = some c := ⟨_, rfl⟩
  refine Ke K Tryz.func39 hc [.tmp 2] rfl 59 rfl (fun cvs hpre => ?_)
  change Hv.pre cvs at hpre
  unfold Hv at hpre
  obtain ⟨⟨t⟩, rfl, ht, hN⟩ := Ha hpre
  simp only at ht hN
  simp only [Tryz.f39, Option.some.injEq] at hc
  subst hc
  refine Kw 3 (of_decide_eq_true (by kernel_rfl)) ?_
  by_cases h0 : t.length = 0
  · have hz : ((t.length : Int) == 0) = true := by simp [h0]
    (sym =>
     simp [hz,Uu,Us,Uv,Ur,szN,Ut,Cd,Ce,Hv.eq_def,Zb,Zc,Zd,Ze,Zf,Zo,Zt,Z6,Qb,Qd,Qn,Qo,Qp,Qq,Qs,Q1,Q2,Q4,Q8,Jk,Jw,J3,J4,J5,J6,J8,J9,Xb,Xc,Xf,Xn,Xo,Xu,X4,X6,X7,Wb,Wc,Wf,Wh,Wi,Wj,Wt,Wu,Wv,Ww,Wy,W0,W6,W7,W8,W9,Ya,Yb,Ye,Yi,Yy,Y0,Y1,Y7,Y8,Vb,Vc,Vd,Ve,Vf,Vg,Vj,Vt,Vu,V4,V5,Uk,Um,Un,Up,U8,Ku,Kq,U4,U3]
     tactic =>
      try simp only [U1] at *
      try simp only [nc2] at *
      try simp (maxSteps := 4000000) only [hz,Uu,Us,Uv,Ur,szN,Ut,U9]
      unfold P8 Ny
      simp [h0])
  have hz : ((t.length : Int) == 0) = false := by rw [beq_eq_false_iff_ne]; omega
  have hlt0 : 0 < t.length := by omega
  have heb : Ny t = true → false = P8 t := by
    intro h; unfold P8; rw [h]; rfl
  have zz1 := Kf n0 hlt0
  (sym =>
   simp [hz,zz1,Uu,Us,Uv,Ur,szN,Ut,Cd,Ce,Hv.eq_def,Zb,Zc,Zd,Ze,Zf,Zo,Zp,Zq,Zs,Zt,Zv,Zx,Zy,Z6,Qb,Qd,Qn,Qo,Qp,Qq,Qs,Q1,Q2,Q4,Q8,Jk,Jw,J3,J4,J5,J6,J8,J9,Xb,Xc,Xf,Xn,Xo,Xu,X3,X4,X6,X7,X8,X9,Wb,Wc,Wf,Wh,Wi,Wj,Wt,Wu,Wv,Ww,Wy,W0,W3,W6,W7,W8,W9,Ya,Yb,Ye,Yg,Yi,Yk,Ym,Yt,Yu,Yw,Yy,Y0,Y1,Y7,Y8,Vb,Vc,Vd,Ve,Vf,Vg,Vj,Vs,Vt,Vu,V4,V5,V6,V8,Uk,Ul,Um,Un,Up,U8,Ku,Kq,U4,U3]
   tactic =>
    try simp only [U1] at *
    try simp only [nc2] at *
    try simp (maxSteps := 4000000) only [hz,zz1,Uu,Us,Uv,Ur,szN,Ut,U9]
    repeat' (first | with_reducible assumption | with_reducible refine And.intro ?_ ?_ | intro _ | omega | (rw [U0]; omega))
    · rename_i h1 h2 h9
      exact heb (by unfold Ny; rw [show ((t.getD 0 n0).kind == 9) = true by rw [beq_iff_eq]; exact h9]; simp only [Bool.or_true])
    · rename_i h1 h3 h9
      have hle : t.length ≤ 10000 := by omega
      have hnb : Ny t = false := by
        unfold Ny
        simp only [Bool.or_eq_false_iff, Nd, beq_eq_false_iff_ne]
        refine ⟨⟨⟨by omega, by omega⟩, ?_⟩, h9⟩
        simpa using h3
      have hr : P8 t = (t.all B5 && ((end3 t 0 == (t.length : Int) && A0 t) && (List.range t.length).all fun i => lab3 t i)) := by
        unfold P8; rw [hnb]; rfl
      refine Km [2, 27, 28, 29, 30, 31, 32, 33, 34, 35, 36, 37, 38] (fun k : Nat => [(3, .d (.int .i64 k))]) (fun k : Nat => []) (fun k : Nat => k ≤ t.length ∧ ∀ j, j < k → B5 (t.getD j n0) = true) (fun k : Nat => t.length - k) 0 ?_ ?_ ?_
      · simp
      · ((try simp only [U2, Ka, U6, Kg, upd, Kh, Ko, Gd, Nat.reduceDiv, Nat.reduceMod, Nat.reduceMul, Nat.reduceAdd, Nat.reduceEqDiff, List.set_cons_zero, List.set_cons_succ, if_true, if_false, reduceIte]); (first | refine Wk.of_fl ?_ | skip); simp only [Wk, wkK, Gl, wkT, wk1, AV.kept, keptAll, wkO, lk, U5, and_true, true_and, and_self, Nat.reduceEqDiff, Nat.reduceLeDiff, if_true, if_false, reduceIte, reduceCtorEq, Option.isSome, false_implies]; try simp [Wk, wkK, wkT, wk1, AV.kept, keptAll, wkO, lk, U5])
      rintro k ⟨hk, hno⟩
      rcases Ks k t.length with ⟨hlt, hlb⟩ | ⟨hlt, hlb⟩
      · have zz2 := Kf n0 hlt
        (sym =>
         simp [hlb,zz2,Uu,Us,Uv,Ur,szN,Ut,Cd,ctx_Right3_c,Ce,ctx_Right3_b,ctx_Right3_w,Pz.eq_def,Po.eq_def,Pn.eq_def,Bo.eq_def,Zb,Zc,Ze,Zf,Zg,Zo,Zp,Zq,Zv,Zy,Z6,Z9,Qb,Qc,Qd,Qe,Qf,Qn,Qo,Qp,Qq,Qs,Q1,Q2,Q4,Q8,Jf,Jj,Jk,Jl,Jy,Jz,J0,J5,J6,J8,J9,Xb,Xc,Xf,Xp,Xu,Xv,X3,X4,X6,X7,X8,Wb,Wc,Wf,Wh,Wi,Wj,Wt,Wu,Wv,Ww,Wx,Wz,W0,Ya,Yb,Yd,Ye,Yf,Yi,Yj,Ym,Yy,Y0,Y1,Y7,Y8,Vr,Vt,Vu,V4,V5,Uk,Um,Un,Uo,Up,U8,Ku,Kq,U4,U3]
         tactic =>
          try simp only [U1] at *
          try simp only [nc2] at *
          try simp (maxSteps := 4000000) only [hlb,zz2,Uu,Us,Uv,Ur,szN,Ut,U9]
          repeat' (first | with_reducible assumption | with_reducible refine And.intro ?_ ?_ | intro _ | omega | (rw [U0]; omega))
          · rename_i hb
            rw [hr, all_not (p := B5) n0 k hlt hb]
            rfl
          · rename_i hb
            refine ⟨k + 1, by ((try simp only [U2, Ka, U6, Kg, upd, Kh, Ko, Gd, Nat.reduceDiv, Nat.reduceMod, Nat.reduceMul, Nat.reduceAdd, Nat.reduceEqDiff, List.set_cons_zero, List.set_cons_succ, if_true, if_false, reduceIte]); (first | refine Wk.of_fl ?_ | skip); simp only [Wk, wkK, Gl, wkT, wk1, AV.kept, keptAll, wkO, lk, U5, and_true, true_and, and_self, Nat.reduceEqDiff, Nat.reduceLeDiff, if_true, if_false, reduceIte, reduceCtorEq, Option.isSome, false_implies]; try simp [Wk, wkK, wkT, wk1, AV.kept, keptAll, wkO, lk, U5]), by omega, fun j hj => ?_, by omega⟩
            by_cases hjk : j = k
            · subst hjk; exact hb
            · exact hno j (by omega))
      · have hall : t.all B5 = true := all_of_lt (p := B5) n0 fun j hj => hno j (by omega)
        have hT : Tame t := ⟨by omega, fun n hn => numb3_tame (List.all_eq_true.1 hall n hn)⟩
        rw [hall, Bool.true_and] at hr
        have hT2 : Tame t ∧ inR .i64 0 := ⟨hT, by rw [U0]; omega⟩
        (sym =>
         simp [hlb,hT,Uu,Us,Uv,Ur,szN,Ut,Cd,ctx_Right3_c,Ce,ctx_Right3_b,Pz.eq_def,Po.eq_def,Pn.eq_def,Bo.eq_def,Zb,Zc,Zd,Ze,Zf,Zg,Zo,Zt,Z6,Z9,Qb,Qc,Qd,Qe,Qf,Qn,Qo,Qp,Qq,Qs,Q1,Q2,Q4,Q8,Jf,Jj,Jk,Jl,Jy,Jz,J0,J5,J6,J7,J8,J9,Xa,Xb,Xc,Xf,Xu,Xv,X3,X4,X6,X7,X8,X9,Wa,Wb,Wc,Wf,Wh,Wi,Wj,Wt,Wu,Wv,Ww,Wx,Wz,W0,W8,W9,Ya,Yb,Yd,Ye,Yf,Yi,Yj,Yx,Yy,Y0,Y1,Y7,Y8,Y9,Vh,Vj,Vm,Vo,Vt,Vu,V4,V5,Uk,Ul,Um,Un,Uo,Up,U8,Ku,Kq,U4,U3]
         tactic =>
          try simp only [U1] at *
          try simp only [nc2] at *
          try simp (maxSteps := 4000000) only [hlb,hT,Uu,Us,Uv,Ur,szN,Ut,U9]
          repeat' (first | with_reducible assumption | with_reducible refine And.intro ?_ ?_ | intro _ | omega | (rw [U0]; omega))
          · rename_i he hs
            rw [hr, hs]
            simp
          · rename_i he hs
            have hr2 : P8 t = (List.range t.length).all fun i => lab3 t i := by
              rw [hr, hs, show (end3 t 0 == (t.length : Int)) = true by simpa using he]
              rfl
            refine Km [2, 49, 50, 51, 52, 53, 54, 55, 56, 57, 58] (fun k : Nat => [(4, .d (.int .i64 k))]) (fun k : Nat => []) (fun k : Nat => k ≤ t.length ∧ ∀ j, j < k → lab3 t j = true) (fun k : Nat => t.length - k) 0 ?_ ?_ ?_
            · simp
            · ((try simp only [U2, Ka, U6, Kg, upd, Kh, Ko, Gd, Nat.reduceDiv, Nat.reduceMod, Nat.reduceMul, Nat.reduceAdd, Nat.reduceEqDiff, List.set_cons_zero, List.set_cons_succ, if_true, if_false, reduceIte]); (first | refine Wk.of_fl ?_ | skip); simp only [Wk, wkK, Gl, wkT, wk1, AV.kept, keptAll, wkO, lk, U5, and_true, true_and, and_self, Nat.reduceEqDiff, Nat.reduceLeDiff, if_true, if_false, reduceIte, reduceCtorEq, Option.isSome, false_implies]; try simp [Wk, wkK, wkT, wk1, AV.kept, keptAll, wkO, lk, U5])
            rintro k ⟨hk2, hno2⟩
            rcases Ks k t.length with ⟨hlt2, hlb2⟩ | ⟨hlt2, hlb2⟩
            · (sym =>
               simp [hlb2,Uu,Us,Uv,Ur,szN,Ut,Cd,ctx_Right3_c,Ce,ctx_Right3_b,ctx_Right3_w,Pz.eq_def,Po.eq_def,Pn.eq_def,Bo.eq_def,Zb,Zc,Ze,Zf,Zg,Zo,Z6,Z9,Qb,Qc,Qd,Qe,Qf,Qn,Qo,Qp,Qq,Qs,Q1,Q2,Q4,Q8,Jf,Jj,Jk,Jl,Jy,Jz,J0,J5,J6,J7,J8,J9,Xa,Xb,Xc,Xf,Xu,Xv,X3,X4,X6,X7,X8,Wb,Wc,Wf,Wh,Wi,Wj,Wt,Wu,Wv,Ww,Wx,Wz,W0,Ya,Yb,Yd,Ye,Yf,Yi,Yj,Yy,Y0,Y1,Y7,Y8,Y9,Va,Vh,Vj,Vm,Vo,Vr,Vt,Vu,V4,V5,Uk,Um,Un,Uo,Up,U8,Ku,Kq,U4,U3]
               tactic =>
                try simp only [U1] at *
                try simp only [nc2] at *
                try simp (maxSteps := 4000000) only [hlb2,Uu,Us,Uv,Ur,szN,Ut,U9]
                repeat' (first | with_reducible assumption | with_reducible refine And.intro ?_ ?_ | intro _ | omega | (rw [U0]; omega))
                · rename_i hb
                  rw [hr2, Cq k hlt2 hb]
                · rename_i hb
                  refine ⟨k + 1, by ((try simp only [U2, Ka, U6, Kg, upd, Kh, Ko, Gd, Nat.reduceDiv, Nat.reduceMod, Nat.reduceMul, Nat.reduceAdd, Nat.reduceEqDiff, List.set_cons_zero, List.set_cons_succ, if_true, if_false, reduceIte]); (first | refine Wk.of_fl ?_ | skip); simp only [Wk, wkK, Gl, wkT, wk1, AV.kept, keptAll, wkO, lk, U5, and_true, true_and, and_self, Nat.reduceEqDiff, Nat.reduceLeDiff, if_true, if_false, reduceIte, reduceCtorEq, Option.isSome, false_implies]; try simp [Wk, wkK, wkT, wk1, AV.kept, keptAll, wkO, lk, U5]), by omega, fun j hj => ?_, by omega⟩
                  by_cases hjk : j = k
                  · subst hjk; exact hb
                  · exact hno2 j (by omega))
            · (sym =>
               simp [hlb2,Uu,Us,Uv,Ur,szN,Ut,Cd,Ce,Zb,Zc,Ze,Zf,Zg,Zo,Z6,Qb,Qd,Qn,Qo,Qp,Qq,Qs,Q1,Q2,Q4,Q8,Jk,Jy,Jz,J0,J5,J6,J7,J8,J9,Xa,Xb,Xc,Xf,X4,X6,X7,Wa,Wb,Wc,Wf,Wh,Wi,Wj,Wt,Wu,Wv,Ww,Ya,Yb,Yd,Ye,Yi,Y0,Y1,Y7,Y8,Y9,Va,Vt,Vu,V5,Ul,Um,Un,Uo,Up,U8,Ku,Kq,U4,U3]
               tactic =>
                try simp only [U1] at *
                try simp only [nc2] at *
                try simp (maxSteps := 4000000) only [hlb2,Uu,Us,Uv,Ur,szN,Ut,U9]
                rw [hr2, T2 fun j hj => hno2 j (by omega)])
          · rename_i he
            rw [hr, show (end3 t 0 == (t.length : Int)) = false by simpa using he]
            rfl)
    · rename_i h1 h3
      exact heb (by unfold Ny; rw [show ((t.getD 0 n0).name == []) = false by rw [beq_eq_false_iff_ne]; exact h3]; simp only [Bool.not_false, Bool.or_true, Bool.true_or])
    · rename_i h1
      exact heb (by unfold Ny; rw [show ltB 10000 (t.length : Int) = true by rw [Pv]; exact h1]; simp only [Bool.or_true, Bool.true_or]))
end Go.Am.Ty
set_option linter.unusedSimpArgs false
set_option linter.unusedVariables false
set_option maxHeartbeats 1000000
namespace Go.Am.Ty
open Go.Proofs Go.Rose Go.Rose.Rose
open Enc (enc dec)
def Dz (t : List Node) (most : Int) : Bool := !ltB most t.length && (t.all (fun n => !ltB 100 n.name.length) && (P8 t && Nt t))
def B3 : Con := Bg (fun (t : Sl Node) (_ : Int) => t.l.length ≤ 9223372036854775807 ∧ Cz t.l) (fun t m => Dz t.l m)
noncomputable def E8 : Ctx := ⟨tab, lkC [(39, Hv), (40, H7)], 60, lkB [], [], false⟩
theorem R5 : E8.τ = tab := rfl
theorem ctx_Plain7_c : E8.Γ = lkC [(39, Hv), (40, H7)] := rfl
theorem ctx_Plain7_d : E8.dp = 60 := rfl
theorem ctx_Plain7_b : E8.Δ = lkB [] := rfl
theorem ctx_Plain7_w : E8.wr = false := rfl
set_option maxRecDepth 100000 in
theorem good_Plain7 : Gj Tryz.prog (11, B3) := by
  refine ⟨U7 Tryz.func11 (by kernel_rfl) rfl, ?_⟩
  have K : Ky Tryz.prog E8 := Kd K6 Ki (by
    intro p hp
    simp only [List.mem_cons, List.not_mem_nil, or_false] at hp
    rcases hp with rfl | rfl
    · exact good_Right3
    · exact good_Plain3) (by simp)
  obtain ⟨c, hc⟩ : ∃ c, Tryz.f11.body = some c := ⟨_, rfl⟩
  refine Ke K Tryz.func11 hc [.tmp 4] rfl 29 rfl (fun cvs hpre => ?_)
  change B3.pre cvs at hpre
  unfold B3 at hpre
  obtain ⟨⟨t⟩, m, rfl, ht, hN⟩ := Gi hpre
  simp only at ht hN
  simp only [Tryz.f11, Option.some.injEq] at hc
  subst hc
  rcases Tc m t.length with ⟨hm, hmb⟩ | ⟨hm, hmb⟩
  · (sym =>
     simp [hmb,Uu,Us,Uv,Ur,szN,Ut,R5,ctx_Plain7_d,B3.eq_def,Za,Zb,Zc,Ze,Zf,Zo,Z6,Qb,Qd,Qn,Qo,Qp,Qq,Qs,Q1,Q2,Q4,Q8,Jk,Jw,J3,J4,Xf,Xv,X4,X6,X7,Wb,Wc,Wf,Wh,Wi,Wj,Wt,Wu,Wv,Ww,Wy,W0,W6,W7,Ye,Yi,Yx,Yy,Y0,Y1,Y7,Y8,Y9,Va,Vb,Vc,Vh,Vj,Vu,V5,Uk,Um,Un,Up,U8,Kq,U4,U3]
     tactic =>
      try simp only [U1] at *
      try simp only [nc2] at *
      try simp (maxSteps := 4000000) only [hmb,Uu,Us,Uv,Ur,szN,Ut,U9]
      unfold Dz
      rw [hmb]
      rfl)
  · have hp : Dz t m = (t.all (fun n => !ltB 100 n.name.length) && (P8 t && Nt t)) := by
      unfold Dz; rw [hmb]; rfl
    (sym =>
     simp [hmb,Uu,Us,Uv,Ur,szN,Ut,R5,B3.eq_def,Za,Zb,Zc,Ze,Zf,Zo,Z6,Qb,Qd,Qq,Qs,Q1,Q2,Q4,Jw,J3,J4,Xv,X3,X4,X6,X7,X8,X9,Wc,Wf,Wh,Wi,Wj,Wt,Wu,Wv,Ww,Wy,W0,W6,W7,Ye,Yi,Yx,Yy,Y0,Y1,Y7,Y8,Y9,Va,Vb,Vc,Vh,Vj,Vu,V4,V5,Ul,Um,Un,Up,U8,Kq,U4,U3]
     tactic =>
      try simp only [U1] at *
      try simp only [nc2] at *
      try simp (maxSteps := 4000000) only [hmb,Uu,Us,Uv,Ur,szN,Ut,U9]
      refine Km [4, 10, 11, 12, 13, 14, 15, 16, 17, 18, 19, 20, 21, 22] (fun k : Nat => [(5, .d (.int .i64 k))]) (fun k : Nat => []) (fun k : Nat => k ≤ t.length ∧ ∀ j, j < k → (!ltB 100 (t.getD j n0).name.length) = true) (fun k : Nat => t.length - k) 0 ?_ ?_ ?_
      · simp
      · ((try simp only [U2, Ka, U6, Kg, upd, Kh, Ko, Gd, Nat.reduceDiv, Nat.reduceMod, Nat.reduceMul, Nat.reduceAdd, Nat.reduceEqDiff, List.set_cons_zero, List.set_cons_succ, if_true, if_false, reduceIte]); (first | refine Wk.of_fl ?_ | skip); simp only [Wk, wkK, Gl, wkT, wk1, AV.kept, keptAll, wkO, lk, U5, and_true, true_and, and_self, Nat.reduceEqDiff, Nat.reduceLeDiff, if_true, if_false, reduceIte, reduceCtorEq, Option.isSome, false_implies]; try simp [Wk, wkK, wkT, wk1, AV.kept, keptAll, wkO, lk, U5])
      rintro k ⟨hk, hno⟩
      rcases Ks k t.length with ⟨hlt, hlb⟩ | ⟨hlt, hlb⟩
      · have zz1 := Kf n0 hlt
        (sym =>
         simp [hlb,zz1,Uu,Us,Uv,Ur,szN,Ut,R5,ctx_Plain7_d,ctx_Plain7_w,Zb,Zc,Ze,Zf,Zg,Zo,Zp,Zq,Zs,Zv,Zx,Zy,Z6,Qb,Qd,Qn,Qo,Qp,Qq,Qs,Q1,Q2,Q4,Q8,Jk,Jy,Jz,J0,Xf,X3,X4,X6,X7,X8,Wb,Wc,Wf,Wh,Wi,Wj,Wt,Wu,W8,W9,Yd,Ye,Yg,Yi,Yk,Ym,Yu,Yw,Y0,Y1,Y7,Y8,Y9,Va,Vr,Vt,Vu,V4,V5,Uk,Um,Un,Uo,Up,U8,Kq,U4,U3]
         tactic =>
          try simp only [U1] at *
          try simp only [nc2] at *
          try simp (maxSteps := 4000000) only [hlb,zz1,Uu,Us,Uv,Ur,szN,Ut,U9]
          repeat' (first | with_reducible assumption | with_reducible refine And.intro ?_ ?_ | intro _ | omega | (rw [U0]; omega))
          · rename_i hb
            rw [hp, all_not (p := fun n : Node => !ltB 100 n.name.length) n0 k hlt (by rw [show ltB 100 ((t.getD k n0).name.length : Int) = true by rw [Pv]; exact hb]; rfl)]
            rfl
          · rename_i hb
            refine ⟨k + 1, by ((try simp only [U2, Ka, U6, Kg, upd, Kh, Ko, Gd, Nat.reduceDiv, Nat.reduceMod, Nat.reduceMul, Nat.reduceAdd, Nat.reduceEqDiff, List.set_cons_zero, List.set_cons_succ, if_true, if_false, reduceIte]); (first | refine Wk.of_fl ?_ | skip); simp only [Wk, wkK, Gl, wkT, wk1, AV.kept, keptAll, wkO, lk, U5, and_true, true_and, and_self, Nat.reduceEqDiff, Nat.reduceLeDiff, if_true, if_false, reduceIte, reduceCtorEq, Option.isSome, false_implies]; try simp [Wk, wkK, wkT, wk1, AV.kept, keptAll, wkO, lk, U5]), by omega, fun j hj => ?_, by omega⟩
            by_cases hjk : j = k
            · subst hjk; exact hb
            · have := hno j (by omega)
              rw [Bool.not_eq_true', Nd] at this
              exact this)
      · have hall : t.all (fun n => !ltB 100 n.name.length) = true := all_of_lt (p := fun n : Node => !ltB 100 n.name.length) n0 fun j hj => hno j (by omega)
        rw [hall, Bool.true_and] at hp
        (sym =>
         simp [hlb,hp,Uu,Us,Uv,Ur,szN,Ut,R5,ctx_Plain7_c,ctx_Plain7_d,ctx_Plain7_b,H7.eq_def,Hv.eq_def,Zb,Zc,Zd,Ze,Zf,Zg,Zo,Zt,Z6,Z9,Qb,Qd,Qe,Qf,Qn,Qo,Qp,Qq,Qs,Q1,Q2,Q4,Q8,Jf,Jj,Jk,Jl,Jy,Jz,J0,Xf,Xu,X4,X6,X7,Wa,Wb,Wc,Wf,Wh,Wi,Wj,Wt,Wu,Wx,Wz,W0,W8,W9,Yd,Ye,Yi,Yy,Y0,Y1,Y7,Y8,Y9,Va,Vj,Vo,Vt,Vu,V5,Uk,Ul,Um,Un,Uo,Up,U8,Kq,U4,U3]
         tactic =>
          try simp only [U1] at *
          try simp only [nc2] at *
          try simp (maxSteps := 4000000) only [hlb,hp,Uu,Us,Uv,Ur,szN,Ut,U9]
          repeat' (first | with_reducible assumption | with_reducible refine And.intro ?_ ?_ | intro _ | omega | (rw [U0]; omega))
          all_goals rename_i hr
          all_goals rw [hr]
          all_goals rfl))
instance inhSl {α : Type} : Inhabited (Sl α) := ⟨⟨[]⟩⟩
instance inhNode : Inhabited Node := ⟨n0⟩
def Ml (n : Node) : Bool := n.kind == 6 || n.kind == 7
def H6 : Con := Ss (fun (_ : Node) => True) (fun n => Ml n)
noncomputable def ctx_isRowT : Ctx := ⟨tab, lkC [], 60, lkB [], [], false⟩
theorem ctx_isRowT_t : ctx_isRowT.τ = tab := rfl
theorem ctx_isRowT_d : ctx_isRowT.dp = 60 := rfl
theorem good_isRowT : Gj Tryz.prog (101, H6) := by
  refine ⟨U7 Tryz.func101 (by kernel_rfl) rfl, ?_⟩
  have K : Ky Tryz.prog ctx_isRowT := Kd K6 Ki (by simp) (by simp)
  obtain ⟨c, hc⟩ : ∃ c, Tryz.f101.body = some c := ⟨_, rfl⟩
  refine Ke K Tryz.func101 hc [.tmp 2] rfl 11 rfl (fun cvs hpre => ?_)
  change H6.pre cvs at hpre
  unfold H6 at hpre
  obtain ⟨n, rfl, -⟩ := Ha hpre
  simp only [Tryz.f101, Option.some.injEq] at hc
  subst hc
  (sym =>
   simp [Uu,Us,Uv,Ur,szN,Ut,ctx_isRowT_t,ctx_isRowT_d,H6.eq_def,Za,Zb,Zc,Zd,Ze,Zf,Zo,Zp,Zq,Zs,Zt,Zu,Zv,Zx,Qb,Qd,Ql,Qm,Qn,Qo,Qp,Qq,Qs,Q1,Q2,Q4,Q8,Jh,Ji,Jk,Jw,J3,J4,Xf,Xs,Xu,X4,X6,Wb,Wc,Wf,Wh,Wi,Wj,Wt,Wu,Wv,Ww,Wy,W0,W4,W5,W6,W7,W8,W9,Ye,Yi,Yq,Yy,Y7,Y8,Y9,Va,Vb,Vc,V4,V5,Uk,Ul,Um,Un,U8,U3]
   tactic =>
    try simp only [U1] at *
    try simp only [nc2] at *
    try simp (maxSteps := 4000000) only [Uu,Us,Uv,Ur,szN,Ut,U9]
    unfold Ml
    repeat' (first | with_reducible assumption | with_reducible refine And.intro ?_ ?_ | intro _ | omega | (rw [U0]; omega))
    all_goals simp_all)
def ar (n : Node) : Nat := if n.kind = 5 then 2 else if n.kind = 6 ∨ n.kind = 7 then n.n.toNat else 0
def Hr : Con := Ss (fun (_ : Node) => True) (fun n => (ar n : Int))
noncomputable def ctx_manyT : Ctx := ⟨tab, lkC [(101, H6)], 60, lkB [], [], false⟩
theorem ctx_manyT_t : ctx_manyT.τ = tab := rfl
theorem ctx_manyT_c : ctx_manyT.Γ = lkC [(101, H6)] := rfl
theorem ctx_manyT_d : ctx_manyT.dp = 60 := rfl
theorem ctx_manyT_b : ctx_manyT.Δ = lkB [] := rfl
theorem good_manyT : Gj Tryz.prog (96, Hr) := by
  refine ⟨U7 Tryz.func96 (by kernel_rfl) rfl, ?_⟩
  have K : Ky Tryz.prog ctx_manyT := Kd K6 Ki (by
    intro p hp
    simp only [List.mem_cons, List.not_mem_nil, or_false] at hp
    rcases hp with rfl
    · exact good_isRowT) (by simp)
  obtain ⟨c, hc⟩ : ∃ c, Tryz.f96.body = some c := ⟨_, rfl⟩
  refine Ke K Tryz.func96 hc [.tmp 2] rfl 13 rfl (fun cvs hpre => ?_)
  change Hr.pre cvs at hpre
  unfold Hr at hpre
  obtain ⟨n, rfl, -⟩ := Ha hpre
  simp only [Tryz.f96, Option.some.injEq] at hc
  subst hc
  (sym =>
   simp [Uu,Us,Uv,Ur,szN,Ut,ctx_manyT_t,ctx_manyT_c,ctx_manyT_d,ctx_manyT_b,H6.eq_def,Hr.eq_def,Za,Zb,Zc,Ze,Zf,Zg,Zo,Zp,Zq,Zs,Zu,Zv,Zx,Z7,Z9,Qb,Qd,Qe,Qf,Qh,Ql,Qm,Qn,Qo,Qp,Qq,Qs,Q1,Q2,Q4,Q8,Ja,Jf,Jh,Ji,Jj,Jk,Jl,Jw,J3,J4,Xf,Xs,Xu,X3,X4,X6,X7,X8,Wb,Wc,Wf,Wh,Wi,Wj,Wt,Wu,Wv,Ww,Wx,Wy,Wz,W0,W4,W5,W6,W7,W8,W9,Ye,Yi,Yq,Yx,Yy,Y7,Y8,Y9,Va,Vb,Vc,Vd,Ve,Vg,V4,Um,Un,U8,U3]
   tactic =>
    try simp only [U1] at *
    try simp only [nc2] at *
    try simp (maxSteps := 4000000) only [Uu,Us,Uv,Ur,szN,Ut,U9]
    unfold ar
    repeat' (first | with_reducible assumption | with_reducible refine And.intro ?_ ?_ | intro _ | omega | (rw [U0]; omega))
    · rename_i h5
      rw [if_pos h5]; rfl
    · rename_i h5 h6
      rw [if_neg h5, if_pos (by simpa [Ml] using h6)]
      unfold maxI
      split <;> omega
    · rename_i h5 h6
      rw [if_neg h5, if_neg (by simpa [Ml] using h6)]; rfl)
theorem ar_many3 {n : Node} (h : 0 ≤ Pu n) : (ar n : Int) = Pu n := by
  unfold ar Pu at *
  split
  · rfl
  · rename_i h5
    rw [if_neg h5] at h
    split
    · rename_i h6
      rw [if_pos h6] at h
      omega
    · rfl
def endT (t : List Node) (i : Int) : Int := if i < 0 ∨ (t.length : Int) ≤ i then -1 else i + ((S4 ar (t.drop i.toNat) 1).getD 0 : Nat)
def Whole (t : List Node) (i : Int) : Prop := 0 ≤ i → i < t.length → (S4 ar (t.drop i.toNat) 1).isSome = true
theorem eatN_ge : ∀ {l : List Node} {o k : Nat}, S4 ar l o = some k → o ≤ k ∧ k ≤ l.length
  | l, 0, k, h => by
    cases l <;> (simp only [S4, Option.some.injEq] at h; omega)
  | [], o + 1, k, h => by simp [S4] at h
  | n :: l, o + 1, k, h => by
    rw [S4, Option.map_eq_some_iff] at h
    obtain ⟨k', h1, rfl⟩ := h
    have := eatN_ge h1
    simp only [List.length_cons]
    omega
def N5 : Con := Bg (fun (t : Sl Node) (i : Int) => t.l.length ≤ 1000000000 ∧ inR .i64 i ∧ Whole t.l i) (fun t i => endT t.l i)
noncomputable def ctx_EndT : Ctx := ⟨tab, lkC [(96, Hr)], 60, lkB [], [], false⟩
theorem ctx_EndT_t : ctx_EndT.τ = tab := rfl
theorem ctx_EndT_c : ctx_EndT.Γ = lkC [(96, Hr)] := rfl
theorem ctx_EndT_d : ctx_EndT.dp = 60 := rfl
theorem ctx_EndT_b : ctx_EndT.Δ = lkB [] := rfl
theorem ctx_EndT_w : ctx_EndT.wr = false := rfl
set_option maxRecDepth 100000 in
theorem good_EndT : Gj Tryz.prog (97, N5) := by
  refine ⟨U7 Tryz.func97 (by kernel_rfl) rfl, ?_⟩
  have K : Ky Tryz.prog ctx_EndT := Kd K6 Ki (by
    intro p hp
    simp only [List.mem_cons, List.not_mem_nil, or_false] at hp
    rcases hp with rfl
    · exact good_manyT) (by simp)
  obtain ⟨c, hc⟩ : ∃ c, Tryz.f97.body = some c := ⟨_, rfl⟩
  refine Ke K Tryz.func97 hc [.tmp 4] rfl 27 rfl (fun cvs hpre => ?_)
  change N5.pre cvs at hpre
  unfold N5 at hpre
  obtain ⟨⟨t⟩, i, rfl, ht, hi, hw⟩ := Gi hpre
  simp only at ht hw
  rw [U0] at hi
  simp only [Tryz.f97, Option.some.injEq] at hc
  subst hc
  (sym =>
   simp [Uu,Us,Uv,Ur,szN,Ut,ctx_EndT_t,ctx_EndT_d,N5.eq_def,Za,Zb,Zc,Zd,Ze,Zf,Zo,Zt,Z6,Qb,Qd,Qn,Qo,Qp,Qq,Qs,Q1,Q2,Q4,Q8,Jk,Jw,J3,J4,Xf,Xv,X3,X4,X6,X7,X8,X9,Wb,Wc,Wf,Wh,Wi,Wj,Wt,Wu,Wv,Ww,Wy,W0,W6,W7,W8,W9,Ye,Yi,Yx,Y0,Y1,Y7,Y8,Y9,Va,Vb,Vc,Vh,Vj,Vu,V4,V5,Uk,Ul,Um,Un,Up,U8,U4,U3]
   tactic =>
    try simp only [U1] at *
    try simp only [nc2] at *
    try simp (maxSteps := 4000000) only [Uu,Us,Uv,Ur,szN,Ut,U9]
    repeat' (first | with_reducible assumption | with_reducible refine And.intro ?_ ?_ | intro _ | omega | (rw [U0]; omega))
    · rename_i h1 h2
      unfold endT
      rw [if_pos (.inr h2)]
    · rename_i h1 h2
      obtain ⟨i, rfl⟩ : ∃ n : Nat, i = n := ⟨i.toNat, by omega⟩
      obtain ⟨m, hm⟩ := Option.isSome_iff_exists.1 (hw h1 h2)
      simp only [Int.toNat_natCast] at hm
      have e0 : endT t i = i + (m : Int) := by
        unfold endT
        rw [if_neg (by omega), Int.toNat_natCast, hm]
        rfl
      refine Km [14, 15, 16, 17, 18, 19, 20, 21, 22, 23, 24, 25] (fun p : Nat × Nat => [(1, .d (.int .i64 p.1)), (5, .d (.int .i64 p.2))]) (fun p : Nat × Nat => []) (fun p : Nat × Nat => p.1 ≤ t.length ∧ ∃ r, S4 ar (t.drop p.1) p.2 = some r ∧ p.1 + r = i + m) (fun p : Nat × Nat => t.length - p.1) (i, 1) ?_ ?_ ?_
      · exact ⟨by simp only; omega, m, hm, rfl⟩
      · ((try simp only [U2, Ka, U6, Kg, upd, Kh, Ko, Gd, Nat.reduceDiv, Nat.reduceMod, Nat.reduceMul, Nat.reduceAdd, Nat.reduceEqDiff, List.set_cons_zero, List.set_cons_succ, if_true, if_false, reduceIte]); (first | refine Wk.of_fl ?_ | skip); simp only [Wk, wkK, Gl, wkT, wk1, AV.kept, keptAll, wkO, lk, U5, and_true, true_and, and_self, Nat.reduceEqDiff, Nat.reduceLeDiff, if_true, if_false, reduceIte, reduceCtorEq, Option.isSome, false_implies]; try simp [Wk, wkK, wkT, wk1, AV.kept, keptAll, wkO, lk, U5])
      rintro ⟨k, o⟩ ⟨g1, r, g2, g3⟩
      simp only at g1 g2 g3
      cases o with
      | zero =>
        have hz : ltB 0 ((0 : Nat) : Int) = false := rfl
        (sym =>
         simp [hz,Uu,Us,Uv,Ur,szN,Ut,ctx_EndT_t,ctx_EndT_c,ctx_EndT_d,ctx_EndT_b,ctx_EndT_w,Hr.eq_def,Zb,Zc,Ze,Zf,Zg,Zo,Zp,Zq,Zv,Zy,Z9,Qb,Qd,Qe,Qf,Qn,Qo,Qp,Qq,Qs,Q1,Q2,Q4,Q8,Jf,Jj,Jk,Jl,Jy,Jz,J0,Xf,Xu,X3,X4,X6,X7,X8,Wa,Wb,Wc,Wf,Wh,Wi,Wj,Wt,Wu,Wv,Ww,Wx,Wz,W0,Yd,Ye,Yi,Ym,Yx,Y0,Y1,Y7,Y8,Y9,Va,Vr,Vt,Vu,V1,V4,Um,Un,Uo,Up,U8,U4,U3]
         tactic =>
          try simp only [U1] at *
          try simp only [nc2] at *
          try simp (maxSteps := 4000000) only [hz,Uu,Us,Uv,Ur,szN,Ut,U9]
          rw [e0]
          cases hd : t.drop k <;> (rw [hd] at g2; simp only [S4, Option.some.injEq] at g2; omega))
      | succ o =>
        have hz : ltB 0 ((o + 1 : Nat) : Int) = true := by rw [Pv]; omega
        have hlt : k < t.length := by
          rcases Nat.lt_or_ge k t.length with h | h
          · exact h
          · rw [List.drop_eq_nil_of_le h] at g2; simp [S4] at g2
        rw [List.drop_eq_getElem_cons hlt, S4, Option.map_eq_some_iff] at g2
        obtain ⟨r', g4, rfl⟩ := g2
        have hnk : t.getD k n0 = t[k] := by simp [hlt]
        rw [← hnk] at g4
        have hge := eatN_ge g4
        rw [List.length_drop] at hge
        have ee : ((o + 1 : Nat) : Int) + ((ar (t.getD k n0) : Int) - 1) = ((o + ar (t.getD k n0) : Nat) : Int) := by omega
        have zz2 := Kf n0 hlt
        (sym =>
         simp [hz,ee,zz2,Uu,Us,Uv,Ur,szN,Ut,ctx_EndT_t,ctx_EndT_c,ctx_EndT_d,ctx_EndT_b,ctx_EndT_w,Hr.eq_def,Zb,Zc,Ze,Zf,Zg,Zo,Zp,Zq,Zv,Zy,Z9,Qb,Qd,Qe,Qf,Qq,Qs,Q1,Q2,Q4,Q8,Jf,Jj,Jl,Jy,Jz,J0,Xf,Xp,Xu,X3,X4,X6,X7,X8,Wc,Wf,Wh,Wi,Wj,Wt,Wu,Wv,Ww,Wx,Wz,W0,Yd,Ye,Yi,Ym,Yx,Y0,Y1,Y7,Y8,Y9,Va,Vr,Vt,Vu,V4,Uk,Um,Un,Uo,Up,U8,U4,U3]
         tactic =>
          try simp only [U1] at *
          try simp only [nc2] at *
          try simp (maxSteps := 4000000) only [hz,ee,zz2,Uu,Us,Uv,Ur,szN,Ut,U9]
          repeat' (first | with_reducible assumption | with_reducible refine And.intro ?_ ?_ | intro _ | omega | (rw [U0]; omega))
          refine ⟨(k + 1, o + ar (t.getD k n0)), by ((try simp only [U2, Ka, U6, Kg, upd, Kh, Ko, Gd, Nat.reduceDiv, Nat.reduceMod, Nat.reduceMul, Nat.reduceAdd, Nat.reduceEqDiff, List.set_cons_zero, List.set_cons_succ, if_true, if_false, reduceIte]); (first | refine Wk.of_fl ?_ | skip); simp only [Wk, wkK, Gl, wkT, wk1, AV.kept, keptAll, wkO, lk, U5, and_true, true_and, and_self, Nat.reduceEqDiff, Nat.reduceLeDiff, if_true, if_false, reduceIte, reduceCtorEq, Option.isSome, false_implies]; try simp [Wk, wkK, wkT, wk1, AV.kept, keptAll, wkO, lk, U5]), by simp only; omega, ⟨r', g4, by simp only; omega⟩, by simp only; omega⟩)
    · rename_i h1
      unfold endT
      rw [if_pos (.inl h1)])
end Go.Am.Ty
set_option linter.unusedSimpArgs false
set_option linter.unusedVariables false
set_option maxHeartbeats 1000000
namespace Go.Am.Ty
open Go.Proofs Go.Rose Go.Rose.Rose
open Enc (enc dec)
def M8 : Nat → List (Rose Node) → List Int
  | _, [] => []
  | q, x :: xs => (q : Int) :: M8 (q + (nds x).length) xs
theorem Sf : ∀ (q : Nat) (xs : List (Rose Node)), (M8 q xs).length = xs.length
  | _, [] => rfl
  | q, x :: xs => by simp [M8, Sf _ xs]
theorem Ag : ∀ (q : Nat) (xs : List (Rose Node)) (j : Nat), j < xs.length → (M8 q xs).getD j 0 = ((q + (ndss (xs.take j)).length : Nat) : Int)
  | _, [], j, h => by simp at h
  | q, x :: xs, 0, _ => by simp [M8, ndss]
  | q, x :: xs, j + 1, h => by
    simp only [M8, List.getD_cons_succ, List.take_succ_cons, ndss, List.length_append]
    rw [Ag _ xs j (by simpa using h)]
    congr 1
    omega
theorem ats_at {t : List Node} : ∀ {xs : List (Rose Node)} {i j : Nat}, Ats ar t i xs → ∀ h : j < xs.length, At ar t (i + (ndss (xs.take j)).length) xs[j]
  | [], _, _, _, h => by simp at h
  | x :: xs, i, 0, ha, _ => by simpa [ndss] using ha.head.1
  | x :: xs, i, j + 1, ha, h => by
    have := ats_at ha.head.2 (j := j) (by simpa using h)
    simpa [ndss, Nat.add_assoc] using this
theorem Ic {xs : List (Rose Node)} {j : Nat} (h : j < xs.length) : (ndss (xs.take (j + 1))).length = (ndss (xs.take j)).length + (nds xs[j]).length := by
  rw [List.take_succ_eq_append_getElem h, Pt, List.length_append]
  simp [ndss]
theorem ats_le {t : List Node} {i : Nat} {xs : List (Rose Node)} (h : Ats ar t i xs) (hi : i ≤ t.length) : i + (ndss xs).length ≤ t.length := by
  obtain ⟨_, r, h2⟩ := h
  have := congrArg List.length h2
  rw [List.length_drop, List.length_append] at this
  omega
theorem at_whl {t : List Node} {i : Nat} {x : Rose Node} (h : At ar t i x) : Whole t i := fun _ _ => by
  simp only [Int.toNat_natCast]
  rw [at_eatN h]
  rfl
theorem endT_at {t : List Node} {i : Nat} {x : Rose Node} (h : At ar t i x) : endT t i = ((i + (nds x).length : Nat) : Int) := by
  unfold endT
  have := h.lt
  rw [if_neg (by omega), Int.toNat_natCast, at_eatN h]
  simp
def rowK (l : List Int) (j : Nat) : List Int := l.take j ++ List.replicate (l.length - j) 0
theorem rowK_len {l : List Int} {j : Nat} (h : j ≤ l.length) : (rowK l j).length = l.length := by
  unfold rowK
  rw [List.length_append, List.length_take, List.length_replicate]
  omega
theorem rowK_set {l : List Int} {j : Nat} {q : Int} (h : j < l.length) (hq : l.getD j 0 = q) : ((rowK l j).map (enc : Int → D)).set j (.int .i64 q) = (rowK l (j + 1)).map enc := by
  have e : (enc q : D) = .int .i64 q := rfl
  rw [← e, ← List.map_set]
  congr 1
  unfold rowK
  rw [List.set_append_right _ _ (by rw [List.length_take]; omega), List.length_take, show l.length - j = (l.length - (j + 1)) + 1 by omega, List.replicate_succ,
    show j - min j l.length = 0 by omega, List.set_cons_zero, List.take_succ_eq_append_getElem h]
  simp only [List.append_assoc, List.singleton_append]
  congr 2
  rw [← hq]
  simp [h]
theorem rowK_el {l : List Int} {j : Nat} (h : j < l.length) : el ((rowK l j).map (enc : Int → D)) j = .int .i64 0 := by
  rw [Kf (0 : Int) (by rw [rowK_len (by omega)]; exact h)]
  unfold rowK
  rw [List.getD_eq_getElem?_getD, List.getElem?_append_right (by rw [List.length_take]; omega), List.length_take, show j - min j l.length = 0 by omega, show l.length - j = (l.length - (j + 1)) + 1 by omega, List.replicate_succ]
  rfl
theorem rowK_zero {l : List Int} {n : Nat} (h : l.length = n) : List.replicate n (D.int .i64 0) = (rowK l 0).map enc := by
  unfold rowK
  simp [h]
theorem rowK_all {l : List Int} : rowK l l.length = l := by
  unfold rowK
  simp
noncomputable def kidsT (t : List Node) (i : Int) : List Int := if i < 0 ∨ (t.length : Int) ≤ i then [] else M8 (i.toNat + 1) (K1 ar t i.toNat).kids
def Tree (t : List Node) (i : Int) : Prop := 0 ≤ i → i < t.length → ∃ x, At ar t i.toNat x
noncomputable def H3 : Con := Bg (fun (t : Sl Node) (i : Int) => t.l.length ≤ 1000000000 ∧ inR .i64 i ∧ Tree t.l i) (fun t i => Sl.mk (kidsT t.l i))
noncomputable def Al : Ctx := ⟨tab, lkC [(96, Hr), (97, N5)], 60, lkB [], [], false⟩
theorem F9 : Al.τ = tab := rfl
theorem ctx_KidsT_c : Al.Γ = lkC [(96, Hr), (97, N5)] := rfl
theorem Ra : Al.dp = 60 := rfl
theorem ctx_KidsT_b : Al.Δ = lkB [] := rfl
theorem ctx_KidsT_w : Al.wr = false := rfl
set_option maxRecDepth 100000 in
theorem good_KidsT : Gj Tryz.prog (78, H3) := by
  refine ⟨U7 Tryz.func78 (by kernel_rfl) rfl, ?_⟩
  have K : Ky Tryz.prog Al := Kd K6 Ki (by
    intro p hp
    simp only [List.mem_cons, List.not_mem_nil, or_false] at hp
    rcases hp with rfl | rfl
    · exact good_manyT
    · exact good_EndT) (by simp)
  obtain ⟨c, hc⟩ : ∃ c, Tryz.f78.body = some c := ⟨_, rfl⟩
  refine Ke K Tryz.func78 hc [.tmp 4] rfl 38 rfl (fun cvs hpre => ?_)
  change H3.pre cvs at hpre
  unfold H3 at hpre
  obtain ⟨⟨t⟩, i, rfl, ht, hi, hw⟩ := Gi hpre
  simp only at ht hw
  rw [U0] at hi
  simp only [Tryz.f78, Option.some.injEq] at hc
  subst hc
  refine Kw 2 (of_decide_eq_true (by kernel_rfl)) ?_
  rcases (by omega : i < 0 ∨ (t.length : Int) ≤ i ∨ (0 ≤ i ∧ i < t.length)) with h | h | ⟨h1, h2⟩
  · have hb : ltB i 0 = true := by rw [Pv]; exact h
    (sym =>
     simp [hb,Uu,Us,Uv,Ur,szN,Ut,F9,Ra,H3.eq_def,Zb,Zc,Zd,Ze,Zf,Zn,Zo,Zt,Qb,Qd,Qn,Qo,Qp,Qq,Qs,Q1,Q2,Q4,Q8,Jk,Jw,J3,J4,J5,J6,J8,Xb,Xg,Xn,Xo,Xv,X4,X6,X7,Wb,Wc,Wf,Wh,Wi,Wj,Wt,Wu,Wv,Ww,Wy,W0,W6,W7,W8,W9,Ya,Yb,Ye,Yi,Yx,Y7,Y8,Vb,Vc,Vd,Ve,Vf,Vg,Vh,Vj,Vt,Vu,V4,V5,V7,Uk,Um,Un,U8,U4,U3,H9]
     tactic =>
      try simp only [U1] at *
      try simp only [nc2] at *
      try simp (maxSteps := 4000000) only [hb,Uu,Us,Uv,Ur,szN,Ut,U9]
      unfold kidsT
      rw [if_pos (.inl h)]
      rfl)
  · have hb : ltB i 0 = false := by rw [Nd]; omega
    have hb2 : leB (t.length : Int) i = true := by rw [Ig]; omega
    (sym =>
     simp [hb,hb2,Uu,Us,Uv,Ur,szN,Ut,F9,Ra,H3.eq_def,Zb,Zc,Zd,Ze,Zf,Zn,Zo,Zt,Z6,Qb,Qd,Qn,Qo,Qp,Qq,Qs,Q1,Q2,Q4,Q8,Jk,Jw,J3,J4,J5,J6,J8,Xb,Xg,Xn,Xo,Xv,X4,X6,X7,Wb,Wc,Wf,Wh,Wi,Wj,Wt,Wu,Wv,Ww,Wy,W0,W6,W7,W8,W9,Ya,Yb,Ye,Yi,Yx,Y0,Y1,Y7,Y8,Vb,Vc,Vd,Ve,Vf,Vg,Vh,Vj,Vt,Vu,V4,V5,V7,Uk,Ul,Um,Un,Up,U8,U4,U3,H9]
     tactic =>
      try simp only [U1] at *
      try simp only [nc2] at *
      try simp (maxSteps := 4000000) only [hb,hb2,Uu,Us,Uv,Ur,szN,Ut,U9]
      unfold kidsT
      rw [if_pos (.inr h)]
      rfl)
  · obtain ⟨x, hx⟩ := hw h1 h2
    obtain ⟨i, rfl⟩ : ∃ n : Nat, i = n := ⟨i.toNat, by omega⟩
    simp only [Int.toNat_natCast] at hx
    have hil : i < t.length := by omega
    have hb : ltB (i : Int) 0 = false := by rw [Nd]; omega
    have hb2 : leB (t.length : Int) (i : Int) = false := by rw [Dk]; omega
    have hroot : t.getD i n0 = x.root := hx.root n0
    obtain ⟨hks, hkl⟩ := hx.kids
    obtain ⟨ks, hk⟩ : ∃ ks, x.kids = ks := ⟨_, rfl⟩
    rw [hk] at hks hkl
    have hle := ats_le hks (by omega)
    have har : ar (t.getD i n0) = ks.length := by rw [hroot, hkl]
    obtain ⟨l, hl⟩ : ∃ l, M8 (i + 1) ks = l := ⟨_, rfl⟩
    have hll : l.length = ks.length := by rw [← hl, Sf]
    have hkn : ks.length ≤ (ndss ks).length := by
      clear hks hkl hle har hl hll hk
      induction ks with
      | nil => simp
      | cons y ys ih => simp only [List.length_cons, ndss, List.length_append]; have := N8 y; omega
    have e0 : kidsT t i = l := by
      unfold kidsT
      rw [if_neg (by omega)]
      simp only [Int.toNat_natCast]
      rw [Gq hx, hk, hl]
    have zz1 := Kf n0 hil
    (sym =>
     simp [hb,hb2,zz1,har,Uu,Us,Uv,Ur,szN,Ut,F9,ctx_KidsT_c,Ra,ctx_KidsT_b,ctx_KidsT_w,N5.eq_def,H3.eq_def,Hr.eq_def,Zb,Zc,Zd,Ze,Zf,Zn,Zo,Zp,Zq,Zt,Zv,Zy,Z3,Z6,Z9,Qb,Qd,Qe,Qf,Qq,Qs,Q1,Q2,Q4,Q8,Jf,Jh,Ji,Jj,Jl,Jw,J3,J4,J5,J6,J8,J9,Xb,Xc,Xf,Xn,Xo,Xp,Xu,Xv,X3,X4,X6,X7,X8,X9,Wc,Wf,Wh,Wi,Wj,Wl,Wn,Wt,Wu,Wv,Ww,Wx,Wy,Wz,W0,W6,W7,W8,W9,Ya,Yb,Ye,Yi,Ym,Yx,Y0,Y1,Y7,Y8,Vb,Vc,Vd,Ve,Vf,Vg,Vh,Vj,Vr,Vt,Vu,V4,V5,V7,Ul,Um,Un,Uo,Up,U8,U4,U3,H9]
     tactic =>
      try simp only [U1] at *
      try simp only [nc2] at *
      try simp (maxSteps := 4000000) only [hb,hb2,zz1,har,Uu,Us,Uv,Ur,szN,Ut,U9]
      repeat' (first | with_reducible assumption | with_reducible refine And.intro ?_ ?_ | intro _ | omega | (rw [U0]; omega))
      refine Km [7, 27, 28, 29, 30, 31, 32, 33, 34, 35, 36] (fun j : Nat => [(5, .sl 21 ((rowK l j).map (enc : Int → D)).length), (6, .d (.int .i64 (i + 1 + (ndss (ks.take j)).length : Nat))), (21, .dead), (26, .d (.int .i64 j))]) (fun j : Nat => [(21, .row 1 ((rowK l j).map enc) 0)]) (fun j : Nat => j ≤ ks.length) (fun j : Nat => ks.length - j) 0 ?_ ?_ ?_
      · omega
      · ((try simp only [U2, Ka, U6, Kg, upd, Kh, Ko, Gd, Nat.reduceDiv, Nat.reduceMod, Nat.reduceMul, Nat.reduceAdd, Nat.reduceEqDiff, List.set_cons_zero, List.set_cons_succ, if_true, if_false, reduceIte]); (first | refine Wk.of_fl ?_ | skip); simp only [Wk, wkK, Gl, wkT, wk1, AV.kept, keptAll, wkO, lk, U5, and_true, true_and, and_self, Nat.reduceEqDiff, Nat.reduceLeDiff, if_true, if_false, reduceIte, reduceCtorEq, Option.isSome, false_implies]; try simp [Wk, wkK, wkT, wk1, AV.kept, keptAll, wkO, lk, U5, rowK_zero hll, ndss, hll, rowK_len])
      rintro j hj
      have hrl : (rowK l j).length = ks.length := by rw [rowK_len (by omega), hll]
      rcases Ks j ks.length with ⟨hlt, hlb⟩ | ⟨hlt, hlb⟩
      · have hat := ats_at hks hlt
        have hq : l.getD j 0 = ((i + 1 + (ndss (ks.take j)).length : Nat) : Int) := by rw [← hl]; exact Ag _ _ j hlt
        have hset := rowK_set (by omega) hq
        have hel := rowK_el (l := l) (j := j) (by omega)
        have hrl2 : (rowK l (j + 1)).length = ks.length := by rw [rowK_len (by omega), hll]
        have hend := endT_at hat
        have hwh := at_whl hat
        have hlt2 := hat.le
        have hsz := Ic hlt
        (sym =>
         simp [hlb,hrl,hel,hset,hend,Uu,Us,Uv,Ur,szN,Ut,F9,ctx_KidsT_c,Ra,ctx_KidsT_b,ctx_KidsT_w,N5.eq_def,Hr.eq_def,Zb,Zc,Ze,Zf,Zg,Zo,Zp,Zq,Zw,Zy,Z9,Qb,Qd,Qe,Qf,Qq,Qs,Q1,Q2,Q4,Q8,Jf,Jh,Ji,Jj,Jl,Jy,Jz,J0,J5,J6,J7,J8,J9,Xa,Xb,Xc,Xf,Xu,Xv,X3,X4,X6,X7,X8,Wc,Wf,Wh,Wi,Wj,Wt,Wu,Wv,Ww,Wx,Wz,W0,Ya,Yb,Yd,Ye,Yi,Ym,Yn,Yt,Yx,Y7,Y8,Y9,Va,Vh,Vj,Vm,Vo,Vr,Vt,Vu,Vz,V4,Uk,Um,Un,Uo,Up,U8,U4,U3,H9]
         tactic =>
          try simp only [U1] at *
          try simp only [nc2] at *
          try simp (maxSteps := 4000000) only [hlb,hrl,hel,hset,hend,Uu,Us,Uv,Ur,szN,Ut,U9]
          repeat' (first | with_reducible assumption | with_reducible refine And.intro ?_ ?_ | intro _ | omega | (rw [U0]; omega))
          refine ⟨j + 1, by ((try simp only [U2, Ka, U6, Kg, upd, Kh, Ko, Gd, Nat.reduceDiv, Nat.reduceMod, Nat.reduceMul, Nat.reduceAdd, Nat.reduceEqDiff, List.set_cons_zero, List.set_cons_succ, if_true, if_false, reduceIte]); (first | refine Wk.of_fl ?_ | skip); simp only [Wk, wkK, Gl, wkT, wk1, AV.kept, keptAll, wkO, lk, U5, and_true, true_and, and_self, Nat.reduceEqDiff, Nat.reduceLeDiff, if_true, if_false, reduceIte, reduceCtorEq, Option.isSome, false_implies]; try simp [Wk, wkK, wkT, wk1, AV.kept, keptAll, wkO, lk, U5, hrl2, hsz, Int.add_assoc]), by omega, by omega⟩)
      · have hjk : j = l.length := by omega
        (sym =>
         simp [hlb,hrl,Uu,Us,Uv,Ur,szN,Ut,F9,Ra,Zb,Zc,Ze,Zf,Zg,Qb,Qd,Qn,Qo,Qp,Qq,Qs,Q1,Q2,Q4,Q8,Jh,Ji,Jk,Jy,Jz,J0,J5,J6,J7,J8,J9,Xa,Xb,Xc,Xh,X4,X6,X7,Wa,Wb,Wc,Wf,Wh,Wi,Wt,Wu,Wv,Ww,Ya,Yb,Yd,Ye,Yi,Y7,Y8,Y9,Va,Vt,Ul,Um,Un,Up,U8,U4,U3,H9]
         tactic =>
          try simp only [U1] at *
          try simp only [nc2] at *
          try simp (maxSteps := 4000000) only [hlb,hrl,Uu,Us,Uv,Ur,szN,Ut,U9]
          repeat' (first | with_reducible assumption | with_reducible refine And.intro ?_ ?_ | intro _ | omega | (rw [U0]; omega))
          rw [e0, hjk, rowK_all]))
end Go.Am.Ty
set_option linter.unusedSimpArgs false
set_option linter.unusedVariables false
set_option maxHeartbeats 1000000
namespace Go.Am.Ty
open Go.Proofs Go.Rose Go.Rose.Rose
open Enc (enc dec)
structure Pair where
  a : List Node
  b : List Node
  bel : Bool
def dynOf (b : List Node) : Bool → D
  | true => .clo 999999 [.ptr 1 (.list 3 (b.map enc))]
  | false => .clo 91 []
def isBel : D → Bool
  | .clo f _ => f == 999999
  | _ => false
instance encPair : Enc Pair := ⟨fun p => .agg [.list 3 (p.a.map enc), .list 3 (p.b.map enc), dynOf p.b p.bel], fun x => match x with
  | .agg [a, b, c] => ⟨a.l.map dec, b.l.map dec, isBel c⟩
  | _ => ⟨[], [], false⟩, fun p => by
    have h : ∀ l : List Node, (l.map (enc : Node → D)).map dec = l := fun l => Bs
    cases p with
    | mk a b bel => cases bel <;> simp [D.l, h, dynOf, isBel]⟩
theorem Hm {a b : List Node} {bel : Bool} : (enc (Pair.mk a b bel) : D) = .agg [.list 3 (a.map enc), .list 3 (b.map enc), dynOf b bel] := rfl
theorem Nl {b : List Node} : dynOf b true = .clo 999999 [.ptr 1 (.list 3 (b.map enc))] := rfl
theorem Nm {b : List Node} : dynOf b false = .clo 91 [] := rfl
theorem G4 {a b : List Node} : (dec (.agg [.list 3 (a.map enc), .list 3 (b.map enc), .clo 999999 [.ptr 1 (.list 3 (b.map enc))]]) : Pair) = ⟨a, b, true⟩ := Enc.dec_enc (Pair.mk a b true)
theorem G5 {a b : List Node} : (dec (.agg [.list 3 (a.map enc), .list 3 (b.map enc), .clo 91 []]) : Pair) = ⟨a, b, false⟩ := Enc.dec_enc (Pair.mk a b false)
theorem Gy {a b : List Node} : isE Pair (.agg [.list 3 (a.map enc), .list 3 (b.map enc), .clo 999999 [.ptr 1 (.list 3 (b.map enc))]]) = True := eq_true (Lf (Pair.mk a b true))
theorem Gz {a b : List Node} : isE Pair (.agg [.list 3 (a.map enc), .list 3 (b.map enc), .clo 91 []]) = True := eq_true (Lf (Pair.mk a b false))
theorem G6 {a b : List Node} {bel : Bool} : (dec (.agg [.list 3 (a.map enc), .list 3 (b.map enc), dynOf b bel]) : Pair) = ⟨a, b, bel⟩ := Enc.dec_enc (Pair.mk a b bel)
theorem G3 {a b : List Node} {bel : Bool} : isE Pair (.agg [.list 3 (a.map enc), .list 3 (b.map enc), dynOf b bel]) = True := eq_true (Lf (Pair.mk a b bel))
section
variable {a b : List Node} {c : Bool}
theorem Mu : (Pair.mk a b c).a = a := rfl
theorem Mt : (Pair.mk a b c).b = b := rfl
theorem Ms : (Pair.mk a b c).bel = c := rfl
end
def askB (bel : Bool) (m : Node) : Bool := !bel || m.kind == 0
mutual
def ov (bel : Bool) : Rose Node → Rose Node → Bool
  | mk n ks, y => cond (n.kind == 0 || y.root.kind == 0) (askB bel y.root) ((n.kind == y.root.kind && (n.name == y.root.name && n.n == y.root.n)) && ovs bel ks y.kids)
def ovs (bel : Bool) : List (Rose Node) → List (Rose Node) → Bool
  | [], _ => true
  | _ :: _, [] => false
  | x :: xs, y :: ys => x.root.name == y.root.name && (ov bel x y && ovs bel xs ys)
end
def con3q {A B C R S T : Type} [Enc A] [Enc B] [Enc C] [Enc R] [Enc S] [Enc T] (p : A → B → C → Prop) (f : A → B → C → R × S × T) : Con := ⟨[false, false, false], [false, false, false], fun c => match c with
  | [.d x, .d y, .d z] => isE A x ∧ isE B y ∧ isE C z ∧ p (dec x) (dec y) (dec z)
  | _ => False, fun c => match c with
  | [.d x, .d y, .d z] => .tup [.d (enc (f (dec x) (dec y) (dec z)).1), .d (enc (f (dec x) (dec y) (dec z)).2.1), .d (enc (f (dec x) (dec y) (dec z)).2.2)]
  | _ => .d .nilp⟩
theorem con3q_pre {A B C R S T : Type} [Enc A] [Enc B] [Enc C] [Enc R] [Enc S] [Enc T] {p : A → B → C → Prop} {f : A → B → C → R × S × T} {c : List CV} (h : (con3q p f).pre c) : ∃ a b d, c = [.d (enc a), .d (enc b), .d (enc d)] ∧ p a b d := by
  unfold con3q at h
  simp only at h
  split at h
  · next x y z => exact ⟨dec x, dec y, dec z, by rw [← h.1, ← h.2.1, ← h.2.2.1], h.2.2.2⟩
  · exact h.elim
def overR (bel : Bool) (x y : Rose Node) (i k : Int) : Int × Int × Bool :=
  cond (x.root.kind == 0 || y.root.kind == 0) (i + (nds x).length, k + (nds y).length, askB bel y.root)
    (cond (ov bel x y) (i + (nds x).length, k + (nds y).length, true) (0, 0, false))
noncomputable def N4 (n : Nat) : Con := con3q (fun (p : Pair) (i k : Int) => p.a.length ≤ 1000000000 ∧ p.b.length ≤ 1000000000 ∧ 0 ≤ i ∧ 0 ≤ k ∧ ∃ x y, At ar p.a i.toNat x ∧ At ar p.b k.toNat y ∧ (nds x).length < n ∧ p.bel = false)
  (fun p i k => overR p.bel (K1 ar p.a i.toNat) (K1 ar p.b k.toNat) i k)
theorem con_over_zero : ∀ c, ¬ (N4 0).pre c := by
  intro c h
  unfold N4 at h
  obtain ⟨_, _, _, _, _, _, _, _, _, _, _, _, h, _⟩ := con3q_pre h
  omega
def H8 : Con := Bg (fun (_ _ : Int) => True) (fun _ _ => true)
noncomputable def ctx_AgreeDyn : Ctx := ⟨tab, lkC [], 60, lkB [], [], false⟩
theorem ctx_AgreeDyn_d : ctx_AgreeDyn.dp = 60 := rfl
theorem good_AgreeDyn : Gj Tryz.prog (91, H8) := by
  refine ⟨U7 Tryz.func91 (by kernel_rfl) rfl, ?_⟩
  have K : Ky Tryz.prog ctx_AgreeDyn := Kd K6 Ki (by simp) (by simp)
  obtain ⟨c, hc⟩ : ∃ c, Tryz.f91.body = some c := ⟨_, rfl⟩
  refine Ke K Tryz.func91 hc [.tmp 4] rfl 5 rfl (fun cvs hpre => ?_)
  change H8.pre cvs at hpre
  unfold H8 at hpre
  obtain ⟨i, k, rfl, -⟩ := Gi hpre
  simp only [Tryz.f91, Option.some.injEq] at hc
  subst hc
  (sym =>
   simp [ctx_AgreeDyn_d,H8.eq_def,Za,Zb,Zc,Ze,Zf,Qn,Qo,Qp,Qq,Qs,Q1,Q2,Q4,Q8,Jk,Jw,J3,J4,Xf,Xv,X4,X6,Wb,Wc,Wf,Wh,Wt,Wu,Wv,Ww,Wy,W0,W6,W7,Yx,Yy,Y7,Y8,Y9,Va,Vb,Vc,V5,Un,U8])
structure PL where
  l : List Node
instance encPL : Enc PL := ⟨fun p => .ptr 1 (.list 3 (p.l.map enc)), fun x => match x with
  | .ptr _ z => ⟨z.l.map dec⟩
  | _ => ⟨[]⟩, fun p => by
    have h : ∀ l : List Node, (l.map (enc : Node → D)).map dec = l := fun l => Bs
    cases p
    simp [D.l,h]⟩
theorem enc_PL {l : List Node} : (enc (PL.mk l) : D) = .ptr 1 (.list 3 (l.map enc)) := rfl
theorem Nu {l : List Node} : (dec (.ptr 1 (.list 3 (l.map enc))) : PL) = ⟨l⟩ := Enc.dec_enc (PL.mk l)
theorem N6 {l : List Node} : isE PL (.ptr 1 (.list 3 (l.map enc))) = True := eq_true (Lf (PL.mk l))
theorem Tz {l : List Node} : (PL.mk l).l = l := rfl
theorem Nr {A B C R S T : Type} [Enc A] [Enc B] [Enc C] [Enc R] [Enc S] [Enc T] (p : A → B → C → Prop) (f : A → B → C → R × S × T) : con3q p f = ⟨[false, false, false], [false, false, false], fun c => match c with
  | [.d x, .d y, .d z] => isE A x ∧ isE B y ∧ isE C z ∧ p (dec x) (dec y) (dec z)
  | _ => False, fun c => match c with
  | [.d x, .d y, .d z] => .tup [.d (enc (f (dec x) (dec y) (dec z)).1), .d (enc (f (dec x) (dec y) (dec z)).2.1), .d (enc (f (dec x) (dec y) (dec z)).2.2)]
  | _ => .d .nilp⟩ := rfl
theorem ov_kids {bel : Bool} : ∀ {xs ys : List (Rose Node)}, xs.length = ys.length → (ovs bel xs ys = true ↔ ∀ j, j < xs.length → ∀ (h : j < xs.length) (g : j < ys.length), xs[j].root.name = ys[j].root.name ∧ ov bel xs[j] ys[j] = true)
  | [], [], _ => by simp [ovs]
  | [], _ :: _, h => by simp at h
  | _ :: _, [], h => by simp at h
  | x :: xs, y :: ys, h => by
    simp only [ovs, Bool.and_eq_true, beq_iff_eq]
    rw [ov_kids (by simpa using h)]
    constructor
    · rintro ⟨h1, h2, h3⟩ j hj
      cases j with
      | zero => exact fun _ _ => ⟨h1, h2⟩
      | succ j => exact fun g1 g2 => h3 j (by simpa using g1) (by simpa using g1) (by simpa using g2)
    · intro h4
      have h5 := h4 0 (by simp) (by simp) (by simp)
      exact ⟨h5.1, h5.2, fun j hj g1 g2 => h4 (j + 1) (by simpa using hj) (by simpa using g1) (by simpa using g2)⟩
theorem overR_ok {bel : Bool} {x y : Rose Node} {i k : Int} : (overR bel x y i k).2.2 = ov bel x y := by
  obtain ⟨n, ks⟩ := x
  unfold overR
  cases hd : ((mk n ks).root.kind == 0 || y.root.kind == 0) with
  | true =>
    simp only [cond_true]
    rw [ov]
    rw [show (mk n ks).root = n from rfl] at hd
    rw [hd]
    rfl
  | false =>
    cases ho : ov bel (mk n ks) y <;> simp
theorem overR_t {bel : Bool} {x y : Rose Node} {i k : Nat} (h : ov bel x y = true) : overR bel x y i k = (((i + (nds x).length : Nat) : Int), ((k + (nds y).length : Nat) : Int), true) := by
  have h2 := overR_ok (bel := bel) (x := x) (y := y) (i := i) (k := k)
  rw [h] at h2
  unfold overR at h2 ⊢
  cases hd : (x.root.kind == 0 || y.root.kind == 0) with
  | true =>
    rw [hd] at h2
    simp only [cond_true] at h2 ⊢
    rw [h2]
    simp
  | false => rw [h]; simp
theorem ar_eq {m n : Node} (h1 : m.kind = n.kind) (h2 : m.n = n.n) : ar m = ar n := by unfold ar; rw [h1, h2]
theorem nds_at_lt {xs : List (Rose Node)} {j : Nat} (h : j < xs.length) : (nds xs[j]).length ≤ (ndss xs).length := by
  induction xs generalizing j with
  | nil => simp at h
  | cons x xs ih =>
    simp only [ndss, List.length_append]
    cases j with
    | zero => simp
    | succ j => have := ih (j := j) (by simpa using h); simp only [List.getElem_cons_succ]; omega
noncomputable def ctx_over (n : Nat) : Ctx := ⟨tab, lkC [(97, N5), (78, H3), (91, H8), (92, (N4 n))], 60, lkB [], [], false⟩
theorem Lo (n : Nat) : (ctx_over n).τ = tab := rfl
theorem Si (n : Nat) : (ctx_over n).Γ = lkC [(97, N5), (78, H3), (91, H8), (92, (N4 n))] := rfl
theorem Lp (n : Nat) : (ctx_over n).dp = 60 := rfl
theorem Sj (n : Nat) : (ctx_over n).Δ = lkB [] := rfl
theorem Sh (n : Nat) : (ctx_over n).wr = false := rfl
set_option maxRecDepth 100000 in
theorem step_over (n : Nat) (ih : Gj Tryz.prog (92, N4 n)) : Gj Tryz.prog (92, (N4 (n + 1))) := by
  refine ⟨U7 Tryz.func92 (by kernel_rfl) rfl, ?_⟩
  have K : Ky Tryz.prog (ctx_over n) := Kd K6 Ki (by
    intro p hp
    simp only [List.mem_cons, List.not_mem_nil, or_false] at hp
    rcases hp with rfl | rfl | rfl | rfl
    · exact good_EndT
    · exact good_KidsT
    · exact good_AgreeDyn
    · exact ih) (by simp)
  obtain ⟨c, hc⟩ : ∃ c, Tryz.f92.body = some c := ⟨_, rfl⟩
  refine Ke K Tryz.func92 hc [.tmp 6, .tmp 7, .tmp 8] rfl 101 rfl (fun cvs hpre => ?_)
  change (N4 (n + 1)).pre cvs at hpre
  unfold N4 at hpre
  obtain ⟨⟨a, b, bel⟩, i, k, rfl, ha, hb, hi0, hk0, x, y, hx, hy, hn, hbel⟩ := con3q_pre hpre
  simp only at hbel
  obtain ⟨i, rfl⟩ : ∃ n : Nat, i = n := ⟨i.toNat, by omega⟩
  obtain ⟨k, rfl⟩ : ∃ n : Nat, k = n := ⟨k.toNat, by omega⟩
  simp only [Int.toNat_natCast] at hx hy ha hb
  have hil := hx.lt
  have hkl := hy.lt
  have hix := hx.le
  have hky := hy.le
  have hrx : a.getD i n0 = x.root := hx.root n0
  have hry : b.getD k n0 = y.root := hy.root n0
  have htx : K1 ar a i = x := Gq hx
  have hty : K1 ar b k = y := Gq hy
  have hex : endT a i = ((i + (nds x).length : Nat) : Int) := endT_at hx
  have hey : endT b k = ((k + (nds y).length : Nat) : Int) := endT_at hy
  have hwx := at_whl hx
  have hwy := at_whl hy
  simp only [Tryz.f92, Option.some.injEq] at hc
  subst hc
  refine Kw 6 (of_decide_eq_true (by kernel_rfl)) ?_
  have hdc : ((x.root.kind == 0) = true ∧ (x.root.kind == 0 || y.root.kind == 0) = true) ∨ ((x.root.kind == 0) = false ∧ (y.root.kind == 0) = true ∧ (x.root.kind == 0 || y.root.kind == 0) = true) ∨ ((x.root.kind == 0) = false ∧ (y.root.kind == 0) = false ∧ (x.root.kind == 0 || y.root.kind == 0) = false) := by
    cases x.root.kind == 0 <;> cases y.root.kind == 0 <;> simp
  have hR : (x.root.kind == 0 || y.root.kind == 0) = true → overR bel x y i k = (((i + (nds x).length : Nat) : Int), ((k + (nds y).length : Nat) : Int), askB bel y.root) := by
    intro hd
    unfold overR; rw [hd]; simp
  rcases hdc with ⟨hd1, hd⟩ | ⟨hd1, hd2, hd⟩ | ⟨hd1, hd2, hd⟩
  · have hRd := hR hd
    cases bel with
    | true =>
      cases hbel
    | false =>
      have zz1 := Kf n0 hil
      have zz2 := Kf n0 hkl
      (sym =>
       simp [zz1,zz2,hrx,hry,htx,hty,hex,hey,hd1,hRd,G6,G3,Nu,N6,Tz,Nr,Hm,Mu,Mt,Ms,Nl,Nm,G4,G5,Gy,Gz,Uu,Us,Uv,Ur,szN,Ut,Lo,Si,Lp,Sj,Sh,H8.eq_def,N5.eq_def,H3.eq_def,N4.eq_def,Zb,Zc,Zd,Ze,Zf,Zh,Zi,Zj,Zk,Zl,Zm,Zo,Zp,Zq,Zs,Zt,Zu,Zv,Zw,Zx,Zy,Z9,Qa,Qb,Qd,Qe,Qf,Qk,Ql,Qm,Qn,Qo,Qp,Qq,Qr,Qs,Q1,Q2,Q4,Q5,Q6,Q8,Jf,Jh,Ji,Jj,Jk,Jl,Jw,J3,J4,J5,J6,J8,J9,Xb,Xc,Xf,Xn,Xo,Xp,Xs,Xv,Xw,X4,X5,X6,X7,Wb,Wc,Wd,We,Wf,Wg,Wh,Wi,Wj,Wm,Wp,Wq,Wr,Ws,Wt,Wu,Wv,Ww,Wx,Wy,Wz,W0,W4,W5,W6,W7,W8,W9,Ya,Yb,Ye,Yh,Yi,Yl,Ym,Yq,Yx,Yy,Y7,Y8,Vb,Vc,Vd,Ve,Vf,Vg,Vh,Vk,Vl,Vm,Vr,Vt,Vu,V4,V5,Uk,Ul,Um,Un,Uo,Up,Uq,U8,Ku,Kq,U4,U3,H9,tab87,tab89]
       tactic =>
        try simp only [U1] at *
        try simp only [nc2] at *
        try simp (maxSteps := 4000000) only [zz1,zz2,hrx,hry,htx,hty,hex,hey,hd1,hRd,G6,G3,Nu,N6,Tz,Nr,Hm,Mu,Mt,Ms,Nl,Nm,G4,G5,Gy,Gz,Uu,Us,Uv,Ur,szN,Ut,U9]
        repeat' (first | with_reducible assumption | with_reducible refine And.intro ?_ ?_ | intro _ | omega | (rw [U0]; omega))
        all_goals first
          | (with_reducible refine Kl ?_; kernel_rfl)
          | rfl)
  · have hRd := hR hd
    cases bel with
    | true =>
      cases hbel
    | false =>
      have zz3 := Kf n0 hil
      have zz4 := Kf n0 hkl
      (sym =>
       simp [zz3,zz4,hrx,hry,htx,hty,hex,hey,hd1,hd2,hRd,G6,G3,Nu,N6,Tz,Nr,Hm,Mu,Mt,Ms,Nl,Nm,G4,G5,Gy,Gz,Uu,Us,Uv,Ur,szN,Ut,Lo,Si,Lp,Sj,Sh,H8.eq_def,N5.eq_def,H3.eq_def,N4.eq_def,Zb,Zc,Zd,Ze,Zf,Zh,Zi,Zj,Zk,Zl,Zm,Zo,Zp,Zq,Zs,Zt,Zu,Zv,Zw,Zx,Zy,Z9,Qa,Qb,Qd,Qe,Qf,Qk,Ql,Qm,Qn,Qo,Qp,Qq,Qr,Qs,Q1,Q2,Q4,Q5,Q6,Q8,Jf,Jh,Ji,Jj,Jk,Jl,Jw,J3,J4,J5,J6,J8,J9,Xb,Xc,Xf,Xn,Xo,Xp,Xs,Xv,Xw,X4,X5,X6,X7,Wb,Wc,Wd,We,Wf,Wg,Wh,Wi,Wj,Wm,Wp,Wq,Wr,Ws,Wt,Wu,Wv,Ww,Wx,Wy,Wz,W0,W4,W5,W6,W7,W8,W9,Ya,Yb,Ye,Yh,Yi,Yl,Ym,Yq,Yx,Yy,Y7,Y8,Vb,Vc,Vd,Ve,Vf,Vg,Vh,Vk,Vl,Vm,Vr,Vt,Vu,V4,V5,Uk,Ul,Um,Un,Uo,Up,Uq,U8,Ku,Kq,U4,U3,H9,tab87,tab89]
       tactic =>
        try simp only [U1] at *
        try simp only [nc2] at *
        try simp (maxSteps := 4000000) only [zz3,zz4,hrx,hry,htx,hty,hex,hey,hd1,hd2,hRd,G6,G3,Nu,N6,Tz,Nr,Hm,Mu,Mt,Ms,Nl,Nm,G4,G5,Gy,Gz,Uu,Us,Uv,Ur,szN,Ut,U9]
        repeat' (first | with_reducible assumption | with_reducible refine And.intro ?_ ?_ | intro _ | omega | (rw [U0]; omega))
        all_goals first
          | (with_reducible refine Kl ?_; kernel_rfl)
          | rfl)
  · obtain ⟨hks, hkn⟩ := hx.kids
    obtain ⟨hqs, hqn⟩ := hy.kids
    obtain ⟨xs, hxs⟩ : ∃ xs, x.kids = xs := ⟨_, rfl⟩
    obtain ⟨ys, hys⟩ : ∃ ys, y.kids = ys := ⟨_, rfl⟩
    have hov : ov bel x y = ((x.root.kind == y.root.kind && (x.root.name == y.root.name && x.root.n == y.root.n)) && ovs bel xs ys) := by
      obtain ⟨m, zs⟩ := x
      rw [ov]
      rw [show (mk m zs).root = m from rfl] at hd
      rw [hd, hys, show zs = xs from hxs]
      rfl
    have hRo : overR bel x y i k = cond (ov bel x y) (((i + (nds x).length : Nat) : Int), ((k + (nds y).length : Nat) : Int), true) (0, 0, false) := by
      unfold overR; rw [hd]; simp
    have hkids : kidsT a i = M8 (i + 1) xs := by
      unfold kidsT
      rw [if_neg (by omega)]
      simp only [Int.toNat_natCast]
      rw [htx, hxs]
    have hklen : (kidsT a i).length = xs.length := by rw [hkids, Sf]
    have htree : Tree a i := fun _ _ => ⟨x, by simpa using hx⟩
    have hbadR : ov bel x y = false → overR bel x y i k = (0, 0, false) := by
      intro h; rw [hRo, h]; rfl
    have hsame : (x.root.kind == y.root.kind && (x.root.name == y.root.name && x.root.n == y.root.n)) = true → xs.length = ys.length := by
      intro h
      simp only [Bool.and_eq_true, beq_iff_eq] at h
      rw [hxs] at hkn
      rw [hys] at hqn
      rw [hkn, hqn, ar_eq h.1 h.2.2]
    rw [hxs] at hks
    rw [hys] at hqs
    have hle := ats_le hks (by omega)
    have hnx : (nds x).length = 1 + (ndss xs).length := by rw [Nc, hxs, List.length_cons]; omega
    have hny : (nds y).length = 1 + (ndss ys).length := by rw [Nc, hys, List.length_cons]; omega
    have hxl : xs.length ≤ 1000000000 := by
      have := Sf (i + 1) xs
      have h2 : xs.length ≤ (ndss xs).length := by
        clear hks hle hov hkids hklen hbadR hRo hsame hxs hnx this
        induction xs with
        | nil => simp
        | cons z zs ih => simp only [List.length_cons, ndss, List.length_append]; have := N8 z; omega
      omega
    by_cases hk1 : x.root.kind = y.root.kind ∧ x.root.name = y.root.name ∧ x.root.n = y.root.n
    · obtain ⟨e1, e2, e3⟩ := hk1
      have b1 : (x.root.kind != y.root.kind) = false := by simp [e1]
      have b2 : (x.root.name == y.root.name) = true := by simp [e2]
      have b3 : (x.root.n != y.root.n) = false := by simp [e3]
      have c1 : (x.root.kind == y.root.kind) = true := by simp [e1]
      have c3 : (x.root.n == y.root.n) = true := by simp [e3]
      have hlen : xs.length = ys.length := hsame (by simp [e1, e2, e3])
      rw [c1, b2, c3, Bool.true_and, Bool.true_and, Bool.true_and] at hov
      have zz5 := Kf n0 hil
      have zz6 := Kf n0 hkl
      (sym =>
       simp [zz5,zz6,hrx,hry,htx,hty,hd1,hd2,b1,b2,b3,hklen,G6,G3,Nu,N6,Tz,Nr,Hm,Mu,Mt,Ms,Nl,Nm,G4,G5,Gy,Gz,Uu,Us,Uv,Ur,szN,Ut,Lo,Si,Lp,Sj,Sh,H8.eq_def,N5.eq_def,H3.eq_def,N4.eq_def,Zb,Zc,Zd,Ze,Zf,Zh,Zi,Zj,Zk,Zl,Zm,Zo,Zp,Zq,Zs,Zt,Zu,Zv,Zw,Zx,Zy,Z6,Z9,Qb,Qd,Qe,Qf,Qk,Ql,Qm,Qq,Qr,Qs,Q1,Q2,Q4,Q5,Q6,Q8,Jf,Jh,Ji,Jj,Jl,Jw,J3,J4,J5,J6,J8,J9,Xb,Xc,Xf,Xn,Xo,Xp,Xs,Xv,Xw,X3,X4,X5,X6,X7,X8,X9,Wc,Wd,We,Wf,Wg,Wh,Wi,Wj,Wm,Wp,Wt,Wu,Wv,Ww,Wx,Wy,Wz,W0,W4,W5,W6,W7,W8,W9,Ya,Yb,Ye,Yg,Yh,Yi,Yk,Yl,Ym,Yq,Yx,Yy,Y0,Y1,Y4,Y7,Y8,Vb,Vc,Vd,Ve,Vf,Vg,Vh,Vk,Vl,Vm,Vp,Vr,Vt,Vu,V4,V5,Ul,Um,Un,Uo,Up,Uq,U8,Ku,Kq,U4,U3,H9,tab87,tab89]
       tactic =>
        try simp only [U1] at *
        try simp only [nc2] at *
        try simp (maxSteps := 4000000) only [zz5,zz6,hrx,hry,htx,hty,hd1,hd2,b1,b2,b3,hklen,G6,G3,Nu,N6,Tz,Nr,Hm,Mu,Mt,Ms,Nl,Nm,G4,G5,Gy,Gz,Uu,Us,Uv,Ur,szN,Ut,U9]
        repeat' (first | with_reducible assumption | with_reducible refine And.intro ?_ ?_ | intro _ | omega | (rw [U0]; omega))
        all_goals first
          | (with_reducible refine Kl ?_; kernel_rfl)
          | skip
        refine Km [6, 7, 8, 12, 74, 75, 76, 77, 78, 79, 80, 81, 82, 83, 84, 85, 86, 87, 88, 89, 90, 91, 92, 93, 94, 95, 96, 97, 98] (fun j : Nat => [(1, .d (.int .i64 (i + 1 + (ndss (xs.take j)).length : Nat))), (2, .d (.int .i64 (k + 1 + (ndss (ys.take j)).length : Nat))), (73, .d (.int .i64 j))]) (fun j : Nat => []) (fun j : Nat => j ≤ xs.length ∧ ∀ p, p < j → ∀ (h : p < xs.length) (g : p < ys.length), xs[p].root.name = ys[p].root.name ∧ ov bel xs[p] ys[p] = true) (fun j : Nat => xs.length - j) 0 ?_ ?_ ?_
        · exact ⟨Nat.zero_le _, fun p hp => absurd hp (by omega)⟩
        · ((try simp only [U2, Ka, U6, Kg, upd, Kh, Ko, Gd, Nat.reduceDiv, Nat.reduceMod, Nat.reduceMul, Nat.reduceAdd, Nat.reduceEqDiff, List.set_cons_zero, List.set_cons_succ, if_true, if_false, reduceIte]); (first | refine Wk.of_fl ?_ | skip); simp only [Wk, wkK, Gl, wkT, wk1, AV.kept, keptAll, wkO, lk, U5, and_true, true_and, and_self, Nat.reduceEqDiff, Nat.reduceLeDiff, if_true, if_false, reduceIte, reduceCtorEq, Option.isSome, false_implies]; try simp [Wk, wkK, wkT, wk1, AV.kept, keptAll, wkO, lk, U5, ndss])
        rintro j ⟨hj, hno⟩
        rcases Ks j xs.length with ⟨hlt, hlb⟩ | ⟨hlt, hlb⟩
        · have hlt' : j < ys.length := by omega
          have hax := ats_at hks hlt
          have hay := ats_at hqs hlt'
          have hnr : (nds xs[j]).length < n := by have := nds_at_lt hlt; omega
          obtain ⟨xj, hxj⟩ : ∃ z, xs[j] = z := ⟨_, rfl⟩
          obtain ⟨yj, hyj⟩ : ∃ z, ys[j] = z := ⟨_, rfl⟩
          have hsx := Ic hlt
          have hsy := Ic hlt'
          rw [hxj] at hax hnr hsx
          rw [hyj] at hay hsy
          have hgo : xj.root.name = yj.root.name → ov bel xj yj = true → ∀ p, p < j + 1 → ∀ (h : p < xs.length) (g : p < ys.length), xs[p].root.name = ys[p].root.name ∧ ov bel xs[p] ys[p] = true := by
            intro g1 g2 p hp h g
            by_cases hpj : p = j
            · subst hpj; rw [hxj, hyj]; exact ⟨g1, g2⟩
            · exact hno p (by omega) h g
          have hst : ¬ (xj.root.name = yj.root.name ∧ ov bel xj yj = true) → ov bel x y = false := by
            intro h
            rw [hov, Bool.eq_false_iff]
            intro hc
            have := (ov_kids hlen).1 hc j hlt hlt hlt'
            rw [hxj, hyj] at this
            exact h this
          obtain ⟨I, hI⟩ : ∃ I, i + 1 + (ndss (xs.take j)).length = I := ⟨_, rfl⟩
          obtain ⟨J, hJ⟩ : ∃ I, k + 1 + (ndss (ys.take j)).length = I := ⟨_, rfl⟩
          rw [hI] at hax
          rw [hJ] at hay
          have hIl := hax.lt
          have hJl := hay.lt
          have hrx2 : a.getD I n0 = xj.root := hax.root n0
          have hry2 : b.getD J n0 = yj.root := hay.root n0
          have htx2 : K1 ar a I = xj := Gq hax
          have hty2 : K1 ar b J = yj := Gq hay
          have hrec : ∃ x y, At ar a I x ∧ At ar b J y ∧ (nds x).length < n := ⟨xj, yj, hax, hay, hnr⟩
          cases hnm : (xj.root.name == yj.root.name) with
          | false =>
            have hz := hbadR (hst fun h => by rw [beq_eq_false_iff_ne] at hnm; exact hnm h.1)
            have zz7 := Kf n0 hIl
            have zz8 := Kf n0 hJl
            (sym =>
             simp [hlb,hI,hJ,zz7,zz8,hrx2,hry2,hnm,htx,hty,hz,G6,G3,Nu,N6,Tz,Nr,Hm,Mu,Mt,Ms,Nl,Nm,G4,G5,Gy,Gz,Uu,Us,Uv,Ur,szN,Ut,Lo,Si,Lp,Sj,Sh,H8.eq_def,N5.eq_def,H3.eq_def,N4.eq_def,Zb,Zc,Ze,Zf,Zg,Zh,Zi,Zj,Zk,Zl,Zm,Zo,Zp,Zq,Zs,Zv,Zx,Zy,Qb,Qd,Qm,Qn,Qo,Qp,Qq,Qr,Qs,Q1,Q2,Q4,Q5,Q6,Q8,Jh,Jk,Jy,Jz,J0,J5,J6,J8,J9,Xa,Xb,Xc,Xf,Xv,Xw,X3,X4,X5,X6,X7,X8,Wb,Wc,Wd,We,Wf,Wg,Wh,Wi,Wj,Wp,Wt,Wu,Wv,Ww,W4,W5,W6,W7,W8,W9,Ya,Yb,Yd,Ye,Yg,Yh,Yi,Yk,Yl,Ym,Yu,Yw,Y7,Y8,Y9,Va,Vq,Vr,Vt,V4,V5,Uk,Ul,Um,Un,Uo,Up,Uq,U8,Ku,Kq,U4,U3,H9,tab87,tab89]
             tactic =>
              try simp only [U1] at *
              try simp only [nc2] at *
              try simp (maxSteps := 4000000) only [hlb,hI,hJ,zz7,zz8,hrx2,hry2,hnm,htx,hty,hz,G6,G3,Nu,N6,Tz,Nr,Hm,Mu,Mt,Ms,Nl,Nm,G4,G5,Gy,Gz,Uu,Us,Uv,Ur,szN,Ut,U9]
              repeat' (first | with_reducible assumption | with_reducible refine And.intro ?_ ?_ | intro _ | omega | (rw [U0]; omega))
              all_goals (with_reducible refine Kl ?_; kernel_rfl))
          | true =>
            have hnm' := hnm
            rw [beq_iff_eq] at hnm'
            cases ho : ov bel xj yj with
            | false =>
              have hz := hbadR (hst fun h => by rw [ho] at h; cases h.2)
              have h22 : (overR bel xj yj (I : Int) (J : Int)).2.2 = false := by rw [overR_ok, ho]
              cases bel with
              | true =>
                cases hbel
              | false =>
                have zz9 := Kf n0 hIl
                have zz10 := Kf n0 hJl
                (sym =>
                 simp [hlb,hI,hJ,zz9,zz10,hrx2,hry2,htx2,hty2,hnm,htx,hty,h22,hz,G6,G3,Nu,N6,Tz,Nr,Hm,Mu,Mt,Ms,Nl,Nm,G4,G5,Gy,Gz,Uu,Us,Uv,Ur,szN,Ut,Lo,Si,Lp,Sj,Sh,H8.eq_def,N5.eq_def,H3.eq_def,N4.eq_def,Zb,Zc,Ze,Zf,Zg,Zh,Zi,Zj,Zk,Zl,Zm,Zo,Zp,Zq,Zs,Zv,Zx,Zy,Z8,Z9,Qb,Qc,Qd,Qe,Qf,Qg,Qh,Qm,Qn,Qo,Qp,Qq,Qr,Qs,Q1,Q2,Q4,Q5,Q6,Q8,Q9,Ja,Jf,Jh,Jj,Jk,Jl,Jy,Jz,J0,J5,J6,J7,J8,J9,Xa,Xb,Xc,Xf,Xv,Xw,X3,X4,X5,X6,X7,X8,Wb,Wc,Wd,We,Wf,Wg,Wh,Wi,Wj,Wp,Wt,Wu,Wv,Ww,Wx,Wz,W0,W4,W5,W6,W7,W8,W9,Ya,Yb,Yd,Ye,Yf,Yg,Yh,Yi,Yj,Yk,Yl,Ym,Yu,Yw,Yx,Yy,Y7,Y8,Y9,Va,Vd,Ve,Vg,Vh,Vm,Vp,Vq,Vr,Vt,V4,V5,Uk,Ul,Um,Un,Uo,Up,Uq,U8,Ku,Kq,U4,U3,H9,tab87,tab89]
                 tactic =>
                  try simp only [U1] at *
                  try simp only [nc2] at *
                  try simp (maxSteps := 4000000) only [hlb,hI,hJ,zz9,zz10,hrx2,hry2,htx2,hty2,hnm,htx,hty,h22,hz,G6,G3,Nu,N6,Tz,Nr,Hm,Mu,Mt,Ms,Nl,Nm,G4,G5,Gy,Gz,Uu,Us,Uv,Ur,szN,Ut,U9]
                  repeat' (first | with_reducible assumption | with_reducible refine And.intro ?_ ?_ | intro _ | omega | (rw [U0]; omega))
                  all_goals (with_reducible refine Kl ?_; kernel_rfl))
            | true =>
              have h22 := overR_t (bel := bel) (x := xj) (y := yj) (i := I) (k := J) ho
              have hI2 : I + (nds xj).length = i + 1 + (ndss (xs.take (j + 1))).length := by omega
              have hJ2 : J + (nds yj).length = k + 1 + (ndss (ys.take (j + 1))).length := by omega
              cases bel with
              | true =>
                cases hbel
              | false =>
                have zz11 := Kf n0 hIl
                have zz12 := Kf n0 hJl
                (sym =>
                 simp [hlb,hI,hJ,zz11,zz12,hrx2,hry2,htx2,hty2,hnm,htx,hty,h22,hI2,hJ2,G6,G3,Nu,N6,Tz,Nr,Hm,Mu,Mt,Ms,Nl,Nm,G4,G5,Gy,Gz,Uu,Us,Uv,Ur,szN,Ut,Lo,Si,Lp,Sj,Sh,H8.eq_def,N5.eq_def,H3.eq_def,N4.eq_def,Zb,Zc,Ze,Zf,Zg,Zh,Zi,Zj,Zk,Zl,Zm,Zo,Zp,Zq,Zs,Zv,Zx,Zy,Z8,Z9,Qb,Qc,Qd,Qe,Qf,Qg,Qh,Qm,Qq,Qr,Qs,Q1,Q2,Q4,Q5,Q6,Q8,Q9,Ja,Jf,Jh,Jj,Jl,Jy,Jz,J0,J5,J6,J7,J8,J9,Xa,Xb,Xc,Xf,Xv,Xw,X3,X4,X5,X6,X7,X8,Wc,Wd,We,Wf,Wg,Wh,Wi,Wj,Wp,Wt,Wu,Wv,Ww,Wx,Wz,W0,W4,W5,W6,W7,W8,W9,Ya,Yb,Yd,Ye,Yf,Yg,Yh,Yi,Yj,Yk,Yl,Ym,Yu,Yw,Yx,Yy,Y7,Y8,Y9,Va,Vd,Ve,Vg,Vh,Vm,Vp,Vr,Vt,V4,V5,Uk,Ul,Um,Un,Uo,Up,Uq,U8,Ku,Kq,U4,U3,H9,tab87,tab89]
                 tactic =>
                  try simp only [U1] at *
                  try simp only [nc2] at *
                  try simp (maxSteps := 4000000) only [hlb,hI,hJ,zz11,zz12,hrx2,hry2,htx2,hty2,hnm,htx,hty,h22,hI2,hJ2,G6,G3,Nu,N6,Tz,Nr,Hm,Mu,Mt,Ms,Nl,Nm,G4,G5,Gy,Gz,Uu,Us,Uv,Ur,szN,Ut,U9]
                  repeat' (first | with_reducible assumption | with_reducible refine And.intro ?_ ?_ | intro _ | omega | (rw [U0]; omega))
                  all_goals first
                    | (with_reducible refine Kl ?_; kernel_rfl)
                    | exact ⟨j + 1, by ((try simp only [U2, Ka, U6, Kg, upd, Kh, Ko, Gd, Nat.reduceDiv, Nat.reduceMod, Nat.reduceMul, Nat.reduceAdd, Nat.reduceEqDiff, List.set_cons_zero, List.set_cons_succ, if_true, if_false, reduceIte]); (first | refine Wk.of_fl ?_ | skip); simp only [Wk, wkK, Gl, wkT, wk1, AV.kept, keptAll, wkO, lk, U5, and_true, true_and, and_self, Nat.reduceEqDiff, Nat.reduceLeDiff, if_true, if_false, reduceIte, reduceCtorEq, Option.isSome, false_implies]; try simp [Wk, wkK, wkT, wk1, AV.kept, keptAll, wkO, lk, U5]), by omega, hgo hnm' ho, by omega⟩)
        · have hjk : j = xs.length := by omega
          subst hjk
          have ho : ov bel x y = true := by
            rw [hov]
            exact (ov_kids hlen).2 fun p _ h g => hno p h h g
          have h22 := overR_t (bel := bel) (x := x) (y := y) (i := i) (k := k) ho
          have hI2 : i + 1 + (ndss (xs.take xs.length)).length = i + (nds x).length := by rw [List.take_length]; omega
          have hJ2 : k + 1 + (ndss (ys.take xs.length)).length = k + (nds y).length := by rw [hlen, List.take_length]; omega
          (sym =>
           simp [hlb,htx,hty,h22,hI2,hJ2,G6,G3,Nu,N6,Tz,Nr,Hm,Mu,Mt,Ms,Nl,Nm,G4,G5,Gy,Gz,Uu,Us,Uv,Ur,szN,Ut,Lo,Lp,Zb,Zc,Ze,Zf,Zg,Qb,Qd,Qn,Qo,Qp,Qq,Qs,Q1,Q2,Q4,Q8,Jk,Jy,Jz,J0,J5,J6,J7,J8,J9,Xa,Xb,Xc,Xf,X4,X6,X7,Wa,Wb,Wc,Wf,Wh,Wi,Wt,Wu,Wv,Ww,Ya,Yb,Yd,Ye,Yi,Y7,Y8,Y9,Va,Vt,V5,Ul,Um,Un,Uo,U8,Ku,Kq,U4,U3,H9,tab87,tab89]))
    · have hz := hbadR (by
        rw [hov, Bool.eq_false_iff]
        intro hc
        simp only [Bool.and_eq_true, beq_iff_eq] at hc
        exact hk1 ⟨hc.1.1, hc.1.2.1, hc.1.2.2⟩)
      have hcs : (x.root.kind != y.root.kind) = true ∨ ((x.root.kind != y.root.kind) = false ∧ (x.root.name == y.root.name) = false) ∨ ((x.root.kind != y.root.kind) = false ∧ (x.root.name == y.root.name) = true ∧ (x.root.n != y.root.n) = true) := by
        simp only [bne_iff_ne, ne_eq, bne_eq_false_iff_eq, beq_eq_false_iff_ne, beq_iff_eq]
        by_cases h1 : x.root.kind = y.root.kind
        · by_cases h2 : x.root.name = y.root.name
          · exact .inr (.inr ⟨h1, h2, fun h3 => hk1 ⟨h1, h2, h3⟩⟩)
          · exact .inr (.inl ⟨h1, h2⟩)
        · exact .inl h1
      rcases hcs with g1 | ⟨g1, g2⟩ | ⟨g1, g2, g3⟩
      · have zz13 := Kf n0 hil
        have zz14 := Kf n0 hkl
        (sym =>
         simp [zz13,zz14,hrx,hry,htx,hty,hd1,hd2,g1,hz,G6,G3,Nu,N6,Tz,Nr,Hm,Mu,Mt,Ms,Nl,Nm,G4,G5,Gy,Gz,Uu,Us,Uv,Ur,szN,Ut,Lo,Si,Lp,Sj,Sh,H8.eq_def,N5.eq_def,H3.eq_def,N4.eq_def,Zb,Zc,Zd,Ze,Zf,Zh,Zi,Zj,Zk,Zl,Zm,Zo,Zp,Zq,Zs,Zt,Zu,Zv,Zw,Zx,Zy,Z9,Qb,Qd,Qe,Qf,Qk,Ql,Qm,Qn,Qo,Qp,Qq,Qr,Qs,Q1,Q2,Q4,Q5,Q6,Q8,Jf,Jh,Ji,Jj,Jk,Jl,Jw,J3,J4,J5,J6,J8,J9,Xb,Xc,Xf,Xn,Xo,Xp,Xs,Xv,Xw,X3,X4,X5,X6,X7,Wb,Wc,Wd,We,Wf,Wg,Wh,Wi,Wj,Wm,Wp,Wt,Wu,Wv,Ww,Wx,Wy,Wz,W0,W4,W5,W6,W7,W8,W9,Ya,Yb,Ye,Yh,Yi,Yl,Ym,Yq,Yx,Yy,Y7,Y8,Vb,Vc,Vd,Ve,Vf,Vg,Vh,Vk,Vl,Vm,Vr,Vt,Vu,V4,V5,Uk,Ul,Um,Un,Uo,Up,Uq,U8,Ku,Kq,U4,U3,H9,tab87,tab89]
         tactic =>
          try simp only [U1] at *
          try simp only [nc2] at *
          try simp (maxSteps := 4000000) only [zz13,zz14,hrx,hry,htx,hty,hd1,hd2,g1,hz,G6,G3,Nu,N6,Tz,Nr,Hm,Mu,Mt,Ms,Nl,Nm,G4,G5,Gy,Gz,Uu,Us,Uv,Ur,szN,Ut,U9]
          repeat' (first | with_reducible assumption | with_reducible refine And.intro ?_ ?_ | intro _ | omega | (rw [U0]; omega))
          all_goals (with_reducible refine Kl ?_; kernel_rfl))
      · have zz15 := Kf n0 hil
        have zz16 := Kf n0 hkl
        (sym =>
         simp [zz15,zz16,hrx,hry,htx,hty,hd1,hd2,g1,g2,hz,G6,G3,Nu,N6,Tz,Nr,Hm,Mu,Mt,Ms,Nl,Nm,G4,G5,Gy,Gz,Uu,Us,Uv,Ur,szN,Ut,Lo,Si,Lp,Sj,Sh,H8.eq_def,N5.eq_def,H3.eq_def,N4.eq_def,Zb,Zc,Zd,Ze,Zf,Zh,Zi,Zj,Zk,Zl,Zm,Zo,Zp,Zq,Zs,Zt,Zu,Zv,Zw,Zx,Zy,Z9,Qb,Qd,Qe,Qf,Qk,Ql,Qm,Qn,Qo,Qp,Qq,Qr,Qs,Q1,Q2,Q4,Q5,Q6,Q8,Jf,Jh,Ji,Jj,Jk,Jl,Jw,J3,J4,J5,J6,J8,J9,Xb,Xc,Xf,Xn,Xo,Xp,Xs,Xv,Xw,X3,X4,X5,X6,X7,Wb,Wc,Wd,We,Wf,Wg,Wh,Wi,Wj,Wm,Wp,Wt,Wu,Wv,Ww,Wx,Wy,Wz,W0,W4,W5,W6,W7,W8,W9,Ya,Yb,Ye,Yg,Yh,Yi,Yk,Yl,Ym,Yq,Yx,Yy,Y7,Y8,Vb,Vc,Vd,Ve,Vf,Vg,Vh,Vk,Vl,Vm,Vq,Vr,Vt,Vu,V4,V5,Uk,Ul,Um,Un,Uo,Up,Uq,U8,Ku,Kq,U4,U3,H9,tab87,tab89]
         tactic =>
          try simp only [U1] at *
          try simp only [nc2] at *
          try simp (maxSteps := 4000000) only [zz15,zz16,hrx,hry,htx,hty,hd1,hd2,g1,g2,hz,G6,G3,Nu,N6,Tz,Nr,Hm,Mu,Mt,Ms,Nl,Nm,G4,G5,Gy,Gz,Uu,Us,Uv,Ur,szN,Ut,U9]
          repeat' (first | with_reducible assumption | with_reducible refine And.intro ?_ ?_ | intro _ | omega | (rw [U0]; omega))
          all_goals (with_reducible refine Kl ?_; kernel_rfl))
      · have zz17 := Kf n0 hil
        have zz18 := Kf n0 hkl
        (sym =>
         simp [zz17,zz18,hrx,hry,htx,hty,hd1,hd2,g1,g2,g3,hz,G6,G3,Nu,N6,Tz,Nr,Hm,Mu,Mt,Ms,Nl,Nm,G4,G5,Gy,Gz,Uu,Us,Uv,Ur,szN,Ut,Lo,Si,Lp,Sj,Sh,H8.eq_def,N5.eq_def,H3.eq_def,N4.eq_def,Zb,Zc,Zd,Ze,Zf,Zh,Zi,Zj,Zk,Zl,Zm,Zo,Zp,Zq,Zs,Zt,Zu,Zv,Zw,Zx,Zy,Z9,Qb,Qd,Qe,Qf,Qk,Ql,Qm,Qn,Qo,Qp,Qq,Qr,Qs,Q1,Q2,Q4,Q5,Q6,Q8,Jf,Jh,Ji,Jj,Jk,Jl,Jw,J3,J4,J5,J6,J8,J9,Xb,Xc,Xf,Xn,Xo,Xp,Xs,Xv,Xw,X3,X4,X5,X6,X7,Wb,Wc,Wd,We,Wf,Wg,Wh,Wi,Wj,Wm,Wp,Wt,Wu,Wv,Ww,Wx,Wy,Wz,W0,W4,W5,W6,W7,W8,W9,Ya,Yb,Ye,Yg,Yh,Yi,Yk,Yl,Ym,Yq,Yx,Yy,Y7,Y8,Vb,Vc,Vd,Ve,Vf,Vg,Vh,Vk,Vl,Vm,Vp,Vr,Vt,Vu,V4,V5,Uk,Ul,Um,Un,Uo,Up,Uq,U8,Ku,Kq,U4,U3,H9,tab87,tab89]
         tactic =>
          try simp only [U1] at *
          try simp only [nc2] at *
          try simp (maxSteps := 4000000) only [zz17,zz18,hrx,hry,htx,hty,hd1,hd2,g1,g2,g3,hz,G6,G3,Nu,N6,Tz,Nr,Hm,Mu,Mt,Ms,Nl,Nm,G4,G5,Gy,Gz,Uu,Us,Uv,Ur,szN,Ut,U9]
          repeat' (first | with_reducible assumption | with_reducible refine And.intro ?_ ?_ | intro _ | omega | (rw [U0]; omega))
          all_goals (with_reducible refine Kl ?_; kernel_rfl))
theorem goodn_over : ∀ n, Gj Tryz.prog (92, N4 n)
  | 0 => Ev (U7 Tryz.func92 (by kernel_rfl) rfl) con_over_zero
  | n + 1 => step_over n (goodn_over n)
noncomputable def con_overA : Con := N4 1000000001
theorem good_overA : Gj Tryz.prog (92, con_overA) := goodn_over _
theorem con_overA_d : con_overA = N4 1000000001 := rfl
theorem overR_res {bel : Bool} {x y : Rose Node} {i k : Int} : (overR bel x y i k).2.2 = ov bel x y := overR_ok
def One (t : List Node) : Prop := ∃ x, At ar t 0 x
noncomputable def agreeT (a b : List Node) : Bool := ov false (K1 ar a 0) (K1 ar b 0)
noncomputable def Df : Con := Bg (fun (a b : Sl Node) => a.l.length ≤ 1000000000 ∧ b.l.length ≤ 1000000000 ∧ One a.l ∧ One b.l) (fun a b => agreeT a.l b.l)
theorem enc_SlN {l : List Node} : (enc (Sl.mk l) : D) = .list 3 (l.map enc) := rfl
noncomputable def I6 : Ctx := ⟨tab, lkC [(92, con_overA)], 60, lkB [], [], false⟩
theorem ctx_AgreeP_t : I6.τ = tab := rfl
theorem ctx_AgreeP_c : I6.Γ = lkC [(92, con_overA)] := rfl
theorem ctx_AgreeP_d : I6.dp = 60 := rfl
theorem ctx_AgreeP_b : I6.Δ = lkB [] := rfl
theorem good_AgreeP : Gj Tryz.prog (72, Df) := by
  refine ⟨U7 Tryz.func72 (by kernel_rfl) rfl, ?_⟩
  have K : Ky Tryz.prog I6 := Kd K6 Ki (by
    intro p hp
    simp only [List.mem_cons, List.not_mem_nil, or_false] at hp
    rcases hp with rfl
    · exact good_overA) (by simp)
  obtain ⟨c, hc⟩ : ∃ c, Tryz.f72.body = some c := ⟨_, rfl⟩
  refine Ke K Tryz.func72 hc [.tmp 4] rfl 19 rfl (fun cvs hpre => ?_)
  change Df.pre cvs at hpre
  unfold Df at hpre
  obtain ⟨⟨a⟩, ⟨b⟩, rfl, ha, hb, ⟨x, hx⟩, ⟨y, hy⟩⟩ := Gi hpre
  simp only at ha hb hx hy
  have hrec : ∃ x y, At ar a 0 x ∧ At ar b 0 y ∧ (nds x).length < 1000000001 := ⟨x, y, hx, hy, by have := hx.le; omega⟩
  simp only [Tryz.f72, Option.some.injEq] at hc
  subst hc
  (sym =>
   simp [con_overA_d,N4.eq_def,enc_SlN,overR_res,G6,G3,Nu,N6,Tz,Nr,Hm,Mu,Mt,Ms,Nl,Nm,G4,G5,Gy,Gz,Uu,Us,Uv,Ur,szN,Ut,ctx_AgreeP_t,ctx_AgreeP_c,ctx_AgreeP_d,ctx_AgreeP_b,Df.eq_def,Za,Zb,Zc,Ze,Zf,Zo,Zp,Zq,Zu,Zv,Zw,Z2,Z8,Z9,Qe,Qf,Qg,Qh,Qk,Ql,Qn,Qo,Qp,Qq,Qs,Q1,Q2,Q4,Q7,Q8,Q9,Ja,Jf,Jg,Jh,Ji,Jj,Jk,Jl,Jw,J3,J4,Xf,Xr,Xs,Xv,X4,X6,Wb,Wc,Wf,Wh,Wi,Wj,Wm,Wt,Wu,Wv,Ww,Wx,Wy,Wz,W0,W3,W4,W5,W6,W7,W8,W9,Yp,Yq,Yr,Yx,Yy,Y7,Y8,Y9,Va,Vb,Vc,Vd,Ve,Vf,Vg,Vh,Vk,Vl,Vm,Vs,Vu,V4,V5,Ug,Uh,Um,Un,Uo,Uq,U4,U3,tab89]
   tactic =>
    try simp only [U1] at *
    try simp only [nc2] at *
    try simp (maxSteps := 4000000) only [con_overA_d,N4.eq_def,enc_SlN,overR_res,G6,G3,Nu,N6,Tz,Nr,Hm,Mu,Mt,Ms,Nl,Nm,G4,G5,Gy,Gz,Uu,Us,Uv,Ur,szN,Ut,U9]
    repeat' (first | with_reducible assumption | with_reducible refine And.intro ?_ ?_ | intro _ | omega | (rw [U0]; omega))
    all_goals rfl)
end Go.Am.Ty
set_option linter.unusedSimpArgs false
set_option linter.unusedVariables false
set_option maxHeartbeats 1000000
namespace Go.Am.Ty
open Go.Proofs Go.Rose Go.Rose.Rose
open Enc (enc dec)
structure MS where
  out : Option (List Node)
  done : Nat
end Go.Am.Ty
set_option linter.unusedSimpArgs false
set_option linter.unusedVariables false
set_option maxHeartbeats 1000000
namespace Go.Am.Ty
open Go.Proofs Go.Rose Go.Rose.Rose
open Enc (enc dec)
abbrev nB (k : Int) : Node := ⟨k, [], 0⟩
end Go.Am.Ty
set_option linter.unusedSimpArgs false
set_option linter.unusedVariables false
set_option maxHeartbeats 1000000
namespace Go.Am.Ty
open Go.Proofs Go.Rose Go.Rose.Rose
def Cp (l : List Node) : Prop := ∀ n ∈ l, B5 n = true
theorem D1 {n : Node} (h : B5 n = true) : Pu n = (ar n : Int) := (ar_many3 (numb3_tame h).1).symm
theorem eat_eatN : ∀ {l : List Node} {o k : Nat}, Cp l → 1 ≤ o → S4 ar l o = some k → eat l o = k
  | [], o + 1, k, _, _, h => by simp [S4] at h
  | n :: l, o + 1, k, hn, _, h => by
    rw [S4, Option.map_eq_some_iff] at h
    obtain ⟨k', h1, rfl⟩ := h
    have hm := D1 (hn n (by simp))
    have e : ((o + 1 : Nat) : Int) - 1 + Pu n = ((o + ar n : Nat) : Int) := by rw [hm]; omega
    rw [eat, e]
    by_cases hz : o + ar n = 0
    · rw [if_pos (by omega)]
      rw [hz] at h1
      cases l <;> (simp only [S4, Option.some.injEq] at h1; omega)
    · rw [if_neg (by omega), eat_eatN (fun m hm => hn m (List.mem_cons_of_mem _ hm)) (by omega) h1]
      omega
theorem numb_drop {l : List Node} {i : Nat} (h : Cp l) : Cp (l.drop i) := fun n hn => h n (List.mem_of_mem_drop hn)
theorem eat_at {t : List Node} {i : Nat} {x : Rose Node} (hn : Cp t) (h : At ar t i x) : eat (t.drop i) 1 = (nds x).length := eat_eatN (o := 1) (numb_drop hn) (Nat.le_refl _) (at_eatN h)
theorem end3_at {t : List Node} {i : Nat} {x : Rose Node} (hn : Cp t) (h : At ar t i x) : end3 t i = ((i + (nds x).length : Nat) : Int) := by
  unfold end3
  have := h.lt
  rw [if_neg (by omega), Int.toNat_natCast, eat_at hn h]
  simp
theorem kidsFrom_ats {t : List Node} (hn : Cp t) : ∀ {ks : List (Rose Node)} {q : Nat}, Ats ar t q ks → Mn t ks.length q = M8 q ks
  | [], _, _ => rfl
  | x :: ks, q, h => by
    have hx := h.head
    rw [List.length_cons, Mn, if_pos hx.1.lt, eat_at hn hx.1, M8, kidsFrom_ats hn hx.2]
theorem kids3_at {t : List Node} {i : Nat} {x : Rose Node} (hn : Cp t) (h : At ar t i x) : Cr t i = M8 (i + 1) x.kids := by
  unfold Cr
  have hl := h.lt
  have hk := h.kids
  have hm := D1 (hn (t.getD i n0) (by simp [hl]))
  rw [if_neg (by omega)]
  simp only [Int.toNat_natCast]
  rw [show (⟨0, [], 0⟩ : Node) = n0 from rfl, hm, h.root n0, Int.toNat_natCast, ← hk.2, kidsFrom_ats hn hk.1]
theorem ats_of_kids {t : List Node} (hn : Cp t) : ∀ {m q : Nat}, (Mn t m q).length = m → (∀ j, q ≤ j → j < t.length → ∃ z, At ar t j z) → q ≤ t.length → ∃ ks : List (Rose Node), ks.length = m ∧ Ats ar t q ks
  | 0, q, _, _, hq => ⟨[], rfl, trivial, t.drop q, by simp [ndss]⟩
  | m + 1, q, h, hz, hq => by
    rw [Mn] at h
    by_cases hlt : q < t.length
    · rw [if_pos hlt] at h
      obtain ⟨x, hx⟩ := hz q (Nat.le_refl _) hlt
      rw [eat_at hn hx] at h
      obtain ⟨ks, h1, h2, r, h3⟩ := ats_of_kids hn (m := m) (q := q + (nds x).length) (by simpa using h) (fun j hj => hz j (by omega)) hx.le
      obtain ⟨h4, r', h5⟩ := hx
      refine ⟨x :: ks, by simp [h1], ⟨h4, h2⟩, r, ?_⟩
      rw [← List.drop_drop, h5, List.drop_left'] at h3
      · rw [h5, h3, ndss, List.append_assoc]
      · rfl
    · rw [if_neg hlt] at h
      simp at h
theorem trees_of_labs {t : List Node} (hn : Cp t) (h : ∀ i, i < t.length → ((Cr t i).length : Int) = Pu (t.getD i n0)) : ∀ (m i : Nat), t.length - i ≤ m → i < t.length → ∃ z, At ar t i z
  | 0, i, hm, hi => by omega
  | m + 1, i, hm, hi => by
    have h1 := h i hi
    have hmn := D1 (hn (t.getD i n0) (by simp [hi]))
    unfold Cr at h1
    rw [if_neg (by omega)] at h1
    simp only [Int.toNat_natCast] at h1
    rw [show (⟨0, [], 0⟩ : Node) = n0 from rfl, hmn, Int.toNat_natCast] at h1
    obtain ⟨ks, k1, k2, r, k3⟩ := ats_of_kids hn (m := ar (t.getD i n0)) (q := i + 1) (by omega) (fun j hj hjl => trees_of_labs hn h m j (by omega) hjl) (by omega)
    refine ⟨mk (t.getD i n0) ks, ⟨k1, k2⟩, r, ?_⟩
    rw [List.drop_eq_getElem_cons hi, k3, Ho]
    simp [hi]
def deepOk (r d : Nat) : Bool := decide (r + d ≤ 100)
theorem deep_t {r d : Nat} (h : r + d ≤ 100) : deepOk r d = true := decide_eq_true h
theorem deep_f {r d : Nat} (h : ¬ r + d ≤ 100) : deepOk r d = false := decide_eq_false h
theorem deep_eq {r d r' d' : Nat} (h : r + d = r' + d') : deepOk r d = deepOk r' d' := by unfold deepOk; rw [h]
mutual
theorem shal_tree : ∀ (x : Rose Node) (l : List Node) (rs : List Int), wf ar x → Cp (nds x) → shal (nds x ++ l) rs = (deepOk rs.length (depth x) && shal l (popA 0 rs))
  | mk n ks, l, rs, hw, hn => by
    have hm := D1 (hn n (by simp [nds]))
    rw [Ho, List.cons_append, shal, hm, ← hw.1]
    cases ks with
    | nil =>
      have hd : depth (mk n []) = 1 := by simp [depth, depths]
      rw [hd]
      simp only [ndss, List.nil_append, List.length_nil]
      by_cases h : 100 ≤ rs.length
      · rw [if_pos h, deep_f (by omega)]; rfl
      · rw [if_neg h, deep_t (by omega)]; rfl
    | cons y ys =>
      have hd : depth (mk n (y :: ys)) = 1 + depths (y :: ys) := by rw [depth]
      rw [hd, popA_stop (by simp only [List.length_cons]; omega), shal_forest (y :: ys) l rs (by simp) hw.2 (fun m hm => hn m (by rw [Ho]; exact List.mem_cons_of_mem _ hm))]
      by_cases h : 100 ≤ rs.length
      · rw [if_pos h, deep_f (by omega)]; rfl
      · rw [if_neg h]
theorem shal_forest : ∀ (xs : List (Rose Node)) (l : List Node) (rs : List Int), xs ≠ [] → wfs ar xs → Cp (ndss xs) → shal (ndss xs ++ l) ((xs.length : Int) :: rs) = (deepOk rs.length (1 + depths xs) && shal l (popA 0 rs))
  | [], _, _, h, _, _ => absurd rfl h
  | x :: ts, l, rs, _, hw, hn => by
    have h0 := shal_tree x
    cases ts with
    | nil =>
      simp only [ndss, List.append_nil] at hn ⊢
      have hd : depths [x] = depth x := by simp [depths]
      rw [h0 l _ hw.1 hn, hd]
      simp only [List.length_cons, List.length_nil]
      rw [deep_eq (r := rs.length + 1) (d := depth x) (r' := rs.length) (d' := 1 + depth x) (by omega)]
      rfl
    | cons y ts =>
      have h2 := shal_forest (y :: ts) l rs (by simp) hw.2 (fun m hm => hn m (by rw [ndss]; exact List.mem_append_right _ hm))
      rw [ndss, List.append_assoc, h0 _ _ hw.1 (fun m hm => hn m (by rw [ndss]; exact List.mem_append_left _ hm))]
      have e : popA 0 ((((x :: y :: ts).length : Nat) : Int) :: rs) = (((y :: ts).length : Nat) : Int) :: rs := by
        rw [popA, if_pos rfl, show (((x :: y :: ts).length : Nat) : Int) - 1 = (((y :: ts).length : Nat) : Int) by simp only [List.length_cons]; omega, popA_stop (by simp only [List.length_cons]; omega)]
      have hd : depths (x :: y :: ts) = max (depth x) (depths (y :: ts)) := by rw [depths]
      rw [e, h2, hd]
      simp only [List.length_cons]
      by_cases h1 : rs.length + 1 + depth x ≤ 100
      · rw [deep_t h1, Bool.true_and]
        by_cases h2 : rs.length + (1 + depths (y :: ts)) ≤ 100
        · rw [deep_t h2, deep_t (r := rs.length) (d := 1 + max (depth x) (depths (y :: ts))) (by omega)]
        · rw [deep_f h2, deep_f (r := rs.length) (d := 1 + max (depth x) (depths (y :: ts))) (by omega)]
      · rw [deep_f h1, deep_f (r := rs.length) (d := 1 + max (depth x) (depths (y :: ts))) (by omega)]
        rfl
end
theorem shallow3_tree {x : Rose Node} (hw : wf ar x) (hn : Cp (nds x)) : A0 (nds x) = deepOk 0 (depth x) := by
  have := shal_tree x [] [] hw hn
  simp only [List.append_nil, List.length_nil] at this
  unfold A0
  rw [this, shal]
  simp
def labZ (n : Node) (ks : List (Rose Node)) : Bool := (List.range ks.length).all fun k => labK n (ks.getD k (mk n0 [])).root (ks.getD (k - 1) (mk n0 [])).root (ltB 0 k) ((k : Int) == (ks.length : Int) - 1)
mutual
def labT : Rose Node → Bool
  | mk n ks => labZ n ks && labTs ks
def labTs : List (Rose Node) → Bool
  | [] => true
  | x :: xs => labT x && labTs xs
end
theorem lab3_at {t : List Node} {i : Nat} {x : Rose Node} (hn : Cp t) (h : At ar t i x) : lab3 t i = labZ x.root x.kids := by
  have hk := h.kids
  have hl := h.lt
  have hm := D1 (hn (t.getD i n0) (by simp [hl]))
  have hr := h.root n0
  unfold lab3
  rw [kids3_at hn h, Sf, hr]
  rw [hr] at hm
  rw [hm, hk.2]
  rw [show ((ar x.root : Int) == (ar x.root : Int)) = true by simp, Bool.true_and]
  unfold labZ
  rw [hk.2]
  apply Bool.eq_iff_iff.2
  simp only [List.all_eq_true, List.mem_range]
  have key : ∀ k, k < x.kids.length → kidAt t (M8 (i + 1) x.kids) k = (x.kids.getD k (mk n0 [])).root := by
    intro k hk'
    unfold kidAt
    rw [Ag _ _ k hk', Int.toNat_natCast]
    have := (ats_at hk.1 hk').root n0
    rw [this]
    simp [hk']
  have e : ∀ k, k < ar x.root → labAt t i (M8 (i + 1) x.kids) k = labK x.root (x.kids.getD k (mk n0 [])).root (x.kids.getD (k - 1) (mk n0 [])).root (ltB 0 k) ((k : Int) == (ar x.root : Int) - 1) := by
    intro k hk'
    unfold labAt
    rw [hr, key k (by omega), key (k - 1) (by omega), Sf, hk.2]
  constructor
  · intro g k hk'
    rw [← e k hk']; exact g k hk'
  · intro g k hk'
    rw [e k hk']; exact g k hk'
mutual
theorem labT_at {t : List Node} (hn : Cp t) : ∀ {x : Rose Node} {i : Nat}, At ar t i x → (labT x = true ↔ ∀ j, i ≤ j → j < i + (nds x).length → lab3 t j = true)
  | mk n ks, i, h => by
    have h1 := lab3_at hn h
    have hk : Ats ar t (i + 1) ks := h.kids.1
    rw [labT, Bool.and_eq_true, labTs_at hn hk, Ho, List.length_cons]
    simp only [root, kids] at h1 ⊢
    constructor
    · rintro ⟨g1, g2⟩ j hj1 hj2
      by_cases hji : j = i
      · subst hji; rw [h1]; exact g1
      · exact g2 j (by omega) (by omega)
    · intro g
      exact ⟨by rw [← h1]; exact g i (Nat.le_refl _) (by omega), fun j hj1 hj2 => g j (by omega) (by omega)⟩
theorem labTs_at {t : List Node} (hn : Cp t) : ∀ {xs : List (Rose Node)} {i : Nat}, Ats ar t i xs → (labTs xs = true ↔ ∀ j, i ≤ j → j < i + (ndss xs).length → lab3 t j = true)
  | [], i, _ => by simp only [labTs, ndss, List.length_nil, true_iff]; intro j h1 h2; omega
  | x :: xs, i, h => by
    rw [labTs, Bool.and_eq_true, labT_at hn h.head.1, labTs_at hn h.head.2]
    simp only [ndss, List.length_append]
    constructor
    · rintro ⟨g1, g2⟩ j hj1 hj2
      rcases Nat.lt_or_ge j (i + (nds x).length) with hlt | hge
      · exact g1 j hj1 hlt
      · exact g2 j hge (by omega)
    · intro g
      exact ⟨fun j hj1 hj2 => g j hj1 (by omega), fun j hj1 hj2 => g j (by omega) (by omega)⟩
end
structure RT (x : Rose Node) : Prop where
  wf : wf ar x
  numb : Cp (nds x)
  depth : depth x ≤ 100
  lab : labT x = true
  name : x.root.name = []
  kind : x.root.kind ≠ 9
  len : (nds x).length ≤ 10000
theorem right3_rt {x : Rose Node} (h : RT x) : P8 (nds x) = true := by
  have ha := Ns h.wf
  have hp := N8 x
  have hr := ha.root n0
  unfold P8
  have h1 : Ny (nds x) = false := by
    unfold Ny
    rw [hr, h.name]
    have e1 : ((nds x).length == 0) = false := by rw [beq_eq_false_iff_ne]; omega
    have e2 : ltB 10000 ((nds x).length : Int) = false := by rw [Nd]; have := h.len; omega
    have e3 : (x.root.kind == 9) = false := by rw [beq_eq_false_iff_ne]; exact h.kind
    rw [e1, e2, e3]
    rfl
  have h2 : (nds x).all B5 = true := List.all_eq_true.2 h.numb
  have h3 : end3 (nds x) 0 = ((nds x).length : Int) := by have := end3_at h.numb ha; simpa using this
  have h4 : A0 (nds x) = true := by rw [shallow3_tree h.wf h.numb]; exact deep_t (by have := h.depth; omega)
  have h5 : ((List.range (nds x).length).all fun i => lab3 (nds x) i) = true := T2 fun j hj => (labT_at h.numb ha).1 h.lab j (Nat.zero_le _) (by omega)
  rw [h1, h2, h3, h4, h5]
  simp
theorem Bi {t : List Node} (h : P8 t = true) : ∃ x, t = nds x ∧ RT x := by
  unfold P8 at h
  simp only [Bool.and_eq_true, Bool.not_eq_true', beq_iff_eq] at h
  obtain ⟨h1, h2, ⟨h3, h4⟩, h5⟩ := h
  unfold Ny at h1
  simp only [Bool.or_eq_false_iff, beq_eq_false_iff_ne, Bool.not_eq_false', beq_iff_eq, Nd] at h1
  obtain ⟨⟨⟨g1, g2⟩, g3⟩, g4⟩ := h1
  have hn : Cp t := List.all_eq_true.1 h2
  have hl : ∀ i, i < t.length → lab3 t i = true := fun i hi => List.all_eq_true.1 h5 i (List.mem_range.2 hi)
  have hk : ∀ i, i < t.length → ((Cr t i).length : Int) = Pu (t.getD i n0) := by
    intro i hi
    have := hl i hi
    unfold lab3 at this
    rw [Bool.and_eq_true, beq_iff_eq] at this
    exact this.1
  obtain ⟨x, hx⟩ := trees_of_labs hn hk t.length 0 (by omega) (by omega)
  have he := end3_at hn hx
  have he' : end3 t 0 = ((0 + (nds x).length : Nat) : Int) := he
  rw [h3] at he'
  obtain ⟨hw, r, hr⟩ := id hx
  have htx : t = nds x := by
    rw [List.drop_zero] at hr
    have := congrArg List.length hr
    rw [List.length_append] at this
    have hr0 : r = [] := List.length_eq_zero_iff.1 (by omega)
    rw [hr, hr0, List.append_nil]
  have hroot := hx.root n0
  subst htx
  refine ⟨x, rfl, ⟨hw, hn, ?_, (labT_at hn hx).2 fun j _ hj => hl j (by omega), by rw [← hroot]; exact g3, by rw [← hroot]; exact g4, by omega⟩⟩
  rw [shallow3_tree hw hn] at h4
  have := of_decide_eq_true h4
  omega
end Go.Am.Ty
set_option linter.unusedSimpArgs false
set_option linter.unusedVariables false
set_option maxHeartbeats 1000000
namespace Go.Am.Ty
open Go.Proofs Go.Rose Go.Rose.Rose
def sameN (m n : Node) : Bool := m.kind == n.kind && (m.name == n.name && m.n == n.n)
theorem ov_mk {b : Bool} {n : Node} {ks : List (Rose Node)} {y : Rose Node} : ov b (mk n ks) y = cond (n.kind == 0 || y.root.kind == 0) (askB b y.root) (sameN n y.root && ovs b ks y.kids) := by rw [ov]; rfl
theorem sameN_iff {m n : Node} : sameN m n = true ↔ m = n := by
  unfold sameN
  cases m; cases n
  simp
theorem Ia {n : Node} (h : n.kind = 0) : ar n = 0 := by unfold ar; rw [if_neg (by omega), if_neg (by omega)]
theorem at_dyn {n : Node} (h : n.kind = 0) : At ar [n] 0 (mk n []) := ⟨⟨by rw [Ia h]; rfl, trivial⟩, [], rfl⟩
theorem plain7_rt {t : List Node} {m : Int} (h : Dz t m = true) : (t.length : Int) ≤ m ∧ (∀ n ∈ t, n.name.length ≤ 100) ∧ Nt t = true ∧ ∃ x, t = nds x ∧ RT x := by
  unfold Dz at h
  simp only [Bool.and_eq_true, Bool.not_eq_true', Nd] at h
  obtain ⟨h1, h2, h3, h4⟩ := h
  refine ⟨h1, fun n hn => ?_, h4, Bi h3⟩
  have := List.all_eq_true.1 h2 n hn
  rw [Bool.not_eq_true', Nd] at this
  omega
theorem tree_of_rt {x : Rose Node} (h : RT x) : K1 ar (nds x) 0 = x := Gq (Ns h.wf)
end Go.Am.Ty
set_option linter.unusedSimpArgs false
set_option linter.unusedVariables false
set_option maxHeartbeats 1000000
namespace Go.Am.Ty
open Go.Proofs Go.Rose Go.Rose.Rose
open Enc (enc dec)
def In (t : List Node) : Prop := t.length ≤ 9223372036854775807 ∧ Cz t
theorem el_map0 {l : List Node} (h : 0 < l.length) : el (l.map (enc : Node → D)) 0 = enc (l.getD 0 n0) := Kf n0 h
end Go.Am.Ty
set_option linter.unusedSimpArgs false
set_option linter.unusedVariables false
namespace Go.Am.Ty
open Go.Proofs
open Enc (enc dec)
theorem all2_3 {p q r : D → Prop} {ds : List D} (h : All2 [p, q, r] ds) : ∃ a b c, ds = [a, b, c] ∧ p a ∧ q b ∧ r c := by
  match ds, h with
  | [a, b, c], h => exact ⟨a, b, c, rfl, h.1, h.2.1, h.2.2.1⟩
theorem rdNode : Rdt Tryz.prog 39 3 true Node (fun n => n.name.length ≤ maxLen) :=
  (rd_struct (ps := [_, _, _]) Tryz.underlying39 (by kernel_rfl) rfl ⟨rfl, by kernel_rfl, rdt_int Tryz.underlying3, rfl, by kernel_rfl, rdt_str Tryz.underlying9, rfl, by kernel_rfl, rdt_int Tryz.underlying3, trivial⟩).mono fun x h => by
    obtain ⟨ds, rfl, h⟩ := h
    obtain ⟨a, b, c, rfl, ⟨k, rfl, _⟩, ⟨s, rfl, hl⟩, ⟨n, rfl, _⟩⟩ := all2_3 h
    exact ⟨⟨k, s, n⟩, rfl, hl⟩
theorem rdNodes : Rdt Tryz.prog 25 1 false (Sl Node) (fun a => a.l.length ≤ maxLen ∧ ∀ y ∈ a.l, y.name.length ≤ maxLen) := rdt_sl Tryz.underlying25 (by kernel_rfl) rfl (by decide) rdNode
end Go.Am.Ty
set_option linter.unusedSimpArgs false
set_option linter.unusedVariables false
set_option maxHeartbeats 1000000
namespace Go.Am.Ty
open Go.Proofs Go.Rose Go.Rose.Rose
def cur (a : List Node) (s : MS) (i : Nat) : List Node := s.out.getD [] ++ (a.take i).drop s.done
theorem take_drop_at {a : List Node} {i : Nat} {x : Rose Node} (h : At ar a i x) : (a.take (i + (nds x).length)).drop i = nds x := by
  obtain ⟨_, r, h2⟩ := h
  rw [List.drop_take, Nat.add_sub_cancel_left, h2, List.take_left']
  rfl
mutual
theorem ov_symm : ∀ {x y : Rose Node}, wf ar x → wf ar y → ov false x y = true → ov false y x = true
  | mk n ks, mk m qs, hx, hy, h => by
    rw [ov_mk] at h ⊢
    simp only [root, kids] at h ⊢
    by_cases hd : n.kind = 0 ∨ m.kind = 0
    · rw [show (m.kind == 0 || n.kind == 0) = true by simpa [or_comm] using hd]
      rfl
    · rw [show (n.kind == 0 || m.kind == 0) = false by simpa using hd] at h
      rw [show (m.kind == 0 || n.kind == 0) = false by simpa [and_comm] using hd]
      simp only [cond_false, Bool.and_eq_true, sameN_iff] at h ⊢
      obtain ⟨rfl, h⟩ := h
      exact ⟨rfl, ovs_symm hx.2 hy.2 (by rw [hx.1, hy.1]) h⟩
theorem ovs_symm : ∀ {xs ys : List (Rose Node)}, wfs ar xs → wfs ar ys → xs.length = ys.length → ovs false xs ys = true → ovs false ys xs = true
  | [], [], _, _, _, _ => by rw [ovs]
  | [], _ :: _, _, _, hl, _ => by simp at hl
  | _ :: _, [], _, _, hl, _ => by simp at hl
  | x :: xs, y :: ys, hx, hy, hl, h => by
    rw [ovs] at h ⊢
    simp only [Bool.and_eq_true, beq_iff_eq] at h ⊢
    exact ⟨h.1.symm, ov_symm hx.1 hy.1 h.2.1, ovs_symm hx.2 hy.2 (by simpa using hl) h.2.2⟩
end
theorem ov_comm {x y : Rose Node} (hx : wf ar x) (hy : wf ar y) : ov false x y = ov false y x := by
  rw [Bool.eq_iff_iff]
  exact ⟨ov_symm hx hy, ov_symm hy hx⟩
end Go.Am.Ty
set_option linter.unusedSimpArgs false
set_option linter.unusedVariables false
set_option maxHeartbeats 1000000
namespace Go.Am.Ty
open Go.Proofs Go.Rose Go.Rose.Rose
theorem Ld (x : Rose Node) : x.root ∈ nds x := by rw [Nc]; simp
theorem kid_mem {xs : List (Rose Node)} {k : Nat} (h : k < xs.length) : (xs.getD k (mk n0 [])).root ∈ ndss xs := by
  induction xs generalizing k with
  | nil => simp at h
  | cons x xs ih =>
    rw [ndss, List.mem_append]
    cases k with
    | zero => exact .inl (Ld x)
    | succ k => exact .inr (by simpa using ih (k := k) (by simpa using h))
theorem P9 {t : List Node} : Nt t = true ↔ ∀ n ∈ t, n.kind ≠ 8 ∧ n.kind ≠ 9 := by
  unfold Nt
  simp [List.all_eq_true]
end Go.Am.Ty
set_option linter.unusedSimpArgs false
set_option linter.unusedVariables false
set_option maxHeartbeats 1000000
namespace Go.Am.Ty
open Go.Proofs Go.Rose Go.Rose.Rose
open Enc (enc dec)
theorem A3 (l : List Node) : Gp l l = true := by unfold Gp; exact beq_self_eq_true _
end Go.Am.Ty
set_option linter.unusedSimpArgs false
set_option linter.unusedVariables false
set_option maxHeartbeats 1000000
namespace Go.Am.Ty
open Go.Proofs Go.Rose Go.Rose.Rose
open Enc (enc dec)
def K5 {A B : Type} [Enc A] [Enc B] [Sz B] (p : A → Prop) (f : A → List B) : Con := ⟨[false], [true], fun c => match c with
  | [.d x] => isE A x ∧ p (dec x)
  | _ => False, fun c => match c with
  | [.d x] => .own (Sz.sz B) ((f (dec x)).map enc)
  | _ => .d .nilp⟩
theorem con1w_pre {A B : Type} [Enc A] [Enc B] [Sz B] {p : A → Prop} {f : A → List B} {c : List CV} (h : (K5 p f).pre c) : ∃ a, c = [.d (enc a)] ∧ p a := by
  unfold K5 at h
  simp only at h
  split at h
  · next x => exact ⟨dec x, by rw [← h.1], h.2⟩
  · exact h.elim
theorem neL_mk {s : Nat} {l : List D} : neL (.list s l) = (l ≠ []) := rfl
def Me : Con := K5 (fun (t : Sl Node) => t.l ≠ [] ∧ t.l.length ≤ 1000000000) (fun t => t.l)
noncomputable def ctx_cloneNodes : Ctx := ⟨tab, lkC [], 60, lkB [], [], false⟩
theorem ctx_cloneNodes_t : ctx_cloneNodes.τ = tab := rfl
set_option maxRecDepth 100000 in
theorem good_cloneNodes : Gj Tryz.prog (95, Me) := by
  refine ⟨U7 Tryz.func95 (by kernel_rfl) rfl, ?_⟩
  have K : Ky Tryz.prog ctx_cloneNodes := Kd K6 Ki (by simp) (by simp)
  obtain ⟨c, hc⟩ : ∃ c, Tryz.f95.body = some c := ⟨_, rfl⟩
  refine Ke K Tryz.func95 hc [.tmp 2] rfl 8 rfl (fun cvs hpre => ?_)
  change Me.pre cvs at hpre
  unfold Me at hpre
  obtain ⟨⟨t⟩, rfl, hn, ht⟩ := con1w_pre hpre
  simp only at hn ht
  simp only [Tryz.f95, Option.some.injEq] at hc
  subst hc
  have hm : t.map (enc : Node → D) ≠ [] := by simpa using hn
  (sym =>
   simp [K5.eq_def,neL_mk,hm,Uu,Us,Uv,Ur,szN,Ut,ctx_cloneNodes_t,Me.eq_def,Za,Zb,Zc,Ze,Zf,Zn,Zo,Zr,Z1,Z4,Z5,Qb,Qd,Qn,Qo,Qp,Qq,Qs,Q1,Q2,Q4,Q8,Jb,Jc,Jd,Je,Jg,Jh,Ji,Jk,Jw,J3,J4,Xd,X3,X4,X6,X7,Wb,Wc,Wf,Wh,Wi,Wj,Wl,Wn,Wt,Wu,Wv,Ww,Wy,W0,W3,W5,W6,W7,Y0,Y1,Y7,Y8,Y9,Va,Vb,Vc,Vj,Vu,V7,Ul,Um,Un,Up,U4,U3]
   tactic =>
    try simp only [U1] at *
    try simp only [nc2] at *
    try simp (maxSteps := 4000000) only [K5.eq_def,neL_mk,hm,Uu,Us,Uv,Ur,szN,Ut,U9]
    repeat' (first | with_reducible assumption | with_reducible refine And.intro ?_ ?_ | intro _ | omega | (rw [U0]; omega))
    all_goals simp_all)
def clr : List Node → List Node
  | [] => []
  | n :: r => ⟨n.kind, [], n.n⟩ :: r
noncomputable def Ck : Con := Bg (fun (t : Sl Node) (i : Int) => t.l.length ≤ 1000000000 ∧ 0 ≤ i ∧ ∃ x, At ar t.l i.toNat x) (fun t i => Sl.mk (clr (nds (K1 ar t.l i.toNat))))
noncomputable def ctx_PartT : Ctx := ⟨tab, lkC [(97, N5), (95, Me)], 60, lkB [], [], false⟩
theorem ctx_PartT_t : ctx_PartT.τ = tab := rfl
theorem ctx_PartT_c : ctx_PartT.Γ = lkC [(97, N5), (95, Me)] := rfl
theorem ctx_PartT_d : ctx_PartT.dp = 60 := rfl
theorem ctx_PartT_b : ctx_PartT.Δ = lkB [] := rfl
set_option maxRecDepth 100000 in
theorem good_PartT : Gj Tryz.prog (82, Ck) := by
  refine ⟨U7 Tryz.func82 (by kernel_rfl) rfl, ?_⟩
  have K : Ky Tryz.prog ctx_PartT := Kd K6 Ki (by
    intro p hp
    simp only [List.mem_cons, List.not_mem_nil, or_false] at hp
    rcases hp with rfl | rfl
    · exact good_EndT
    · exact good_cloneNodes) (by simp)
  obtain ⟨c, hc⟩ : ∃ c, Tryz.f82.body = some c := ⟨_, rfl⟩
  refine Ke K Tryz.func82 hc [.tmp 4] rfl 25 rfl (fun cvs hpre => ?_)
  change Ck.pre cvs at hpre
  unfold Ck at hpre
  obtain ⟨⟨t⟩, i, rfl, ht, hi, x, hx⟩ := Gi hpre
  simp only at ht hx
  obtain ⟨i, rfl⟩ : ∃ n : Nat, i = n := ⟨i.toNat, by omega⟩
  simp only [Int.toNat_natCast] at hx
  have hw : Whole t i := at_whl hx
  have he := endT_at hx
  have hle := hx.le
  have hp := N8 x
  have hcut := take_drop_at hx
  have htr : K1 ar t i = x := Gq hx
  have hmc : List.drop i (List.take (i + (nds x).length) (t.map (enc : Node → D))) = (nds x).map enc := by rw [← List.map_take, ← List.map_drop, hcut]
  simp only [Tryz.f82, Option.some.injEq] at hc
  subst hc
  (sym =>
   simp [K5.eq_def,neL_mk,he,htr,hmc,Int.toNat_natCast,Uu,Us,Uv,Ur,szN,Ut,ctx_PartT_t,ctx_PartT_c,ctx_PartT_d,ctx_PartT_b,N5.eq_def,Ck.eq_def,Me.eq_def,Za,Zb,Zc,Zd,Ze,Zf,Zn,Zo,Zp,Zq,Zs,Zt,Zw,Zx,Zy,Z0,Z6,Z9,Qb,Qd,Qe,Qf,Qj,Qn,Qo,Qp,Qq,Qs,Q1,Q2,Q4,Q8,Jf,Jh,Ji,Jj,Jk,Jl,Jw,J3,J4,Xf,Xg,Xh,Xv,X3,X4,X6,X7,Wb,Wc,Wf,Wh,Wi,Wj,Wt,Wu,Wv,Ww,Wx,Wy,Wz,W0,W3,W6,W7,W8,W9,Ye,Yi,Ym,Yo,Yu,Yx,Y0,Y1,Y7,Y8,Y9,Va,Vb,Vc,Vh,Vj,Vk,Vl,Vm,Vo,Vs,Vu,V4,V5,V6,V7,V8,Uk,Ul,Um,Un,Uo,Up,U8,Kq,U4,U3]
   tactic =>
    try simp only [U1] at *
    try simp only [nc2] at *
    try simp (maxSteps := 4000000) only [K5.eq_def,neL_mk,he,htr,hmc,Int.toNat_natCast,Uu,Us,Uv,Ur,szN,Ut,U9]
    repeat' (first | with_reducible assumption | with_reducible refine And.intro ?_ ?_ | intro _ | omega | (rw [U0]; omega))
    · have hne : nds x ≠ [] := by intro h; rw [h] at hp; simp at hp
      contradiction
    · rw [List.length_set, List.length_map]
    · revert hp
      cases nds x with
      | nil => intro hp; simp at hp
      | cons n r => intro _; rfl)
def n5 : Node := ⟨5, [], 0⟩
end Go.Am.Ty
set_option linter.unusedSimpArgs false
set_option linter.unusedVariables false
set_option maxHeartbeats 1000000
namespace Go.Am.Ty
open Go.Proofs Go.Rose Go.Rose.Rose
open Enc (enc dec)
theorem arrow3_len {a b : List Node} : (Eh a b).length = a.length + b.length + 1 := by unfold Eh; simp
end Go.Am.Ty
set_option linter.unusedSimpArgs false
set_option linter.unusedVariables false
set_option maxHeartbeats 1000000
namespace Go.Am.Ty
open Go.Proofs Go.Rose Go.Rose.Rose
open Enc (enc dec)
theorem numb_tame {t : List Node} (h : Cp t) (hl : t.length ≤ 100000) : Tame t := ⟨hl, fun n hn => numb3_tame (h n hn)⟩
noncomputable def B8 : Con := Bg (fun (t : Sl Node) (i : Int) => t.l.length ≤ 10000 ∧ Cp t.l ∧ 0 ≤ i ∧ ∃ x, At ar t.l i.toNat x) (fun t i => Sl.mk (clr (nds (K1 ar t.l i.toNat))))
noncomputable def ctx_Part3 : Ctx := ⟨tab, lkC [(64, Pz)], 60, lkB [], [], false⟩
theorem ctx_Part3_t : ctx_Part3.τ = tab := rfl
theorem ctx_Part3_c : ctx_Part3.Γ = lkC [(64, Pz)] := rfl
theorem ctx_Part3_d : ctx_Part3.dp = 60 := rfl
theorem ctx_Part3_b : ctx_Part3.Δ = lkB [] := rfl
set_option maxRecDepth 100000 in
theorem good_Part3 : Gj Tryz.prog (43, B8) := by
  refine ⟨U7 Tryz.func43 (by kernel_rfl) rfl, ?_⟩
  have K : Ky Tryz.prog ctx_Part3 := Kd K6 Ki (by
    intro p hp
    simp only [List.mem_cons, List.not_mem_nil, or_false] at hp
    rcases hp with rfl
    · exact good_End3) (by simp)
  obtain ⟨c, hc⟩ : ∃ c, Tryz.f43.body = some c := ⟨_, rfl⟩
  refine Ke K Tryz.func43 hc [.tmp 4] rfl 26 rfl (fun cvs hpre => ?_)
  change B8.pre cvs at hpre
  unfold B8 at hpre
  obtain ⟨⟨t⟩, i, rfl, ht, hN, hi, x, hx⟩ := Gi hpre
  simp only at ht hx hN
  obtain ⟨i, rfl⟩ : ∃ n : Nat, i = n := ⟨i.toNat, by omega⟩
  simp only [Int.toNat_natCast] at hx
  have hT : Tame t := numb_tame hN (by omega)
  have he := end3_at hN hx
  have hle := hx.le
  have hp := N8 x
  have hcut := take_drop_at hx
  have htr : K1 ar t i = x := Gq hx
  have hmc : List.drop i (List.take (i + (nds x).length) (t.map (enc : Node → D))) = (nds x).map enc := by rw [← List.map_take, ← List.map_drop, hcut]
  simp only [Tryz.f43, Option.some.injEq] at hc
  subst hc
  (sym =>
   simp [he,htr,hmc,Int.toNat_natCast,Uu,Us,Uv,Ur,szN,Ut,ctx_Part3_t,ctx_Part3_c,ctx_Part3_d,ctx_Part3_b,Pz.eq_def,B8.eq_def,Za,Zb,Zc,Zd,Ze,Zf,Zn,Zo,Zp,Zq,Zr,Zs,Zt,Zw,Zx,Zy,Z0,Z1,Z4,Z5,Z6,Z9,Qb,Qd,Qe,Qf,Qj,Qn,Qo,Qp,Qq,Qs,Q1,Q2,Q4,Q8,Jb,Jc,Jd,Je,Jf,Jg,Jh,Ji,Jj,Jk,Jl,Jw,J3,J4,Xd,Xf,Xg,Xh,Xv,X3,X4,X6,X7,Wb,Wc,Wf,Wh,Wi,Wj,Wl,Wn,Wt,Wu,Wv,Ww,Wx,Wy,Wz,W0,W3,W5,W6,W7,W8,W9,Ye,Yh,Yi,Yl,Ym,Yo,Yu,Yx,Y0,Y1,Y7,Y8,Y9,Va,Vb,Vc,Vh,Vj,Vm,Vo,Vs,Vu,V4,V5,V6,V7,V8,Uk,Ul,Um,Un,Uo,Up,U8,Kq,U4,U3]
   tactic =>
    try simp only [U1] at *
    try simp only [nc2] at *
    try simp (maxSteps := 4000000) only [he,htr,hmc,Int.toNat_natCast,Uu,Us,Uv,Ur,szN,Ut,U9]
    repeat' (first | with_reducible assumption | with_reducible refine And.intro ?_ ?_ | intro _ | omega | (rw [U0]; omega))
    all_goals first
      | exact hT
      | rw [List.length_set, List.length_map]
      | (revert hp
         cases nds x with
         | nil => intro hp; simp at hp
         | cons n r => intro _; rfl))
def Hh {A R S : Type} [Enc A] [Enc R] [Enc S] (p : A → Prop) (f : A → R × S) : Con := ⟨[false], [false, false], fun c => match c with
  | [.d x] => isE A x ∧ p (dec x)
  | _ => False, fun c => match c with
  | [.d x] => .tup [.d (enc (f (dec x)).1), .d (enc (f (dec x)).2)]
  | _ => .d .nilp⟩
theorem con1t_pre {A R S : Type} [Enc A] [Enc R] [Enc S] {p : A → Prop} {f : A → R × S} {c : List CV} (h : (Hh p f).pre c) : ∃ a, c = [.d (enc a)] ∧ p a := by
  unfold Hh at h
  simp only at h
  split at h
  · next x => exact ⟨dec x, by rw [← h.1], h.2⟩
  · exact h.elim
def Bh (t : List Node) : Prop := t.length ≤ 10000 ∧ Cp t ∧ ∃ x, t = nds x ∧ wf ar x
def Na (ks : List (Rose Node)) : List (Sl Node) := ks.map fun k => Sl.mk (clr (nds k))
def N3 (ks : List (Rose Node)) : List (List UInt8) := ks.map fun k => k.root.name
theorem parts_snoc {ks : List (Rose Node)} {j : Nat} (h : j < ks.length) : (Na (ks.take j)).map (enc : Sl Node → D) ++ [.list 3 ((clr (nds ks[j])).map enc)] = (Na (ks.take (j + 1))).map enc := by
  rw [List.take_succ_eq_append_getElem h]
  unfold Na
  rw [List.map_append, List.map_append]
  rfl
theorem labs_snoc {ks : List (Rose Node)} {j : Nat} (h : j < ks.length) : (N3 (ks.take j)).map (enc : List UInt8 → D) ++ [.str ks[j].root.name] = (N3 (ks.take (j + 1))).map enc := by
  rw [List.take_succ_eq_append_getElem h]
  unfold N3
  rw [List.map_append, List.map_append]
  rfl
theorem T3 {ks : List (Rose Node)} : (Na ks).length = ks.length := by unfold Na; simp
theorem Hd {ks : List (Rose Node)} : (N3 ks).length = ks.length := by unfold N3; simp
noncomputable def kids7 (t : List Node) : Sl (Sl Node) × Sl (List UInt8) := (⟨Na (K1 ar t 0).kids⟩, ⟨N3 (K1 ar t 0).kids⟩)
noncomputable def Mw : Con := Hh (fun (t : Sl Node) => Bh t.l) (fun t => kids7 t.l)
noncomputable def Ah : Ctx := ⟨tab, lkC [(42, Mx), (43, B8)], 60, lkB [], [], false⟩
theorem ctx_kids7_t : Ah.τ = tab := rfl
theorem ctx_kids7_c : Ah.Γ = lkC [(42, Mx), (43, B8)] := rfl
theorem ctx_kids7_d : Ah.dp = 60 := rfl
theorem ctx_kids7_b : Ah.Δ = lkB [] := rfl
theorem ctx_kids7_w : Ah.wr = false := rfl
set_option maxRecDepth 100000 in
theorem good_kids7 : Gj Tryz.prog (15, Mw) := by
  refine ⟨U7 Tryz.func15 (by kernel_rfl) rfl, ?_⟩
  have K : Ky Tryz.prog Ah := Kd K6 Ki (by
    intro p hp
    simp only [List.mem_cons, List.not_mem_nil, or_false] at hp
    rcases hp with rfl | rfl
    · exact good_Kids3
    · exact good_Part3) (by simp)
  obtain ⟨c, hc⟩ : ∃ c, Tryz.f15.body = some c := ⟨_, rfl⟩
  refine Ke K Tryz.func15 hc [.tmp 2, .tmp 3] rfl 40 rfl (fun cvs hpre => ?_)
  change Mw.pre cvs at hpre
  unfold Mw at hpre
  obtain ⟨⟨t⟩, rfl, ht, hN, x, hxt, hx⟩ := con1t_pre hpre
  simp only at ht hN hxt
  have hat : At ar t 0 x := by rw [hxt]; exact Ns hx
  have hT : Tame t := numb_tame hN (by omega)
  have htr : K1 ar t 0 = x := Gq hat
  have hk3 : Cr t 0 = M8 1 x.kids := kids3_at hN hat
  obtain ⟨hks, hkl⟩ := hat.kids
  have hkt : kids7 t = (⟨Na x.kids⟩, ⟨N3 x.kids⟩) := by unfold kids7; rw [htr]
  obtain ⟨ks, hk⟩ : ∃ ks, x.kids = ks := ⟨_, rfl⟩
  rw [hk] at hks hkl hk3 hkt
  replace hks : Ats ar t 1 ks := hks
  have hle := ats_le hks (by have := hat.lt; omega)
  obtain ⟨l, hl⟩ : ∃ l, M8 1 ks = l := ⟨_, rfl⟩
  have hll : l.length = ks.length := by rw [← hl, Sf]
  have hl1 : Cr t 0 = l := by rw [hk3, ← hl]
  have hkn : ks.length ≤ 10000 := by
    have : ks.length ≤ (ndss ks).length := by
      clear hks hkl hle hll hl hk hkt hk3 hl1
      induction ks with
      | nil => simp
      | cons y ys ih => simp only [List.length_cons, ndss, List.length_append]; have := N8 y; omega
    omega
  simp only [Tryz.f15, Option.some.injEq] at hc
  subst hc
  refine Kw 2 (of_decide_eq_true (by kernel_rfl)) ?_
  (sym =>
   simp [Hh.eq_def,hl1,hkt,Uu,Us,Uv,Ur,szN,Ut,ctx_kids7_t,ctx_kids7_c,ctx_kids7_d,ctx_kids7_b,Mx.eq_def,B8.eq_def,Mw.eq_def,Zb,Zc,Ze,Zf,Zn,Zo,Zr,Z1,Z9,Qe,Qf,Qq,Qs,Q1,Q2,Q4,Q8,Jb,Jc,Jd,Je,Jf,Jg,Jh,Ji,Jj,Jl,Jw,J3,J4,J5,J6,J8,Xb,Xd,Xf,Xn,Xo,Xv,X4,X6,X8,X9,Wc,Wf,Wh,Wi,Wj,Wn,Wt,Wu,Wv,Ww,Wx,Wy,Wz,W0,W3,W5,W6,W7,Ya,Yb,Y7,Y8,Vb,Vc,Vd,Ve,Vf,Vg,Vh,Vj,Vm,Vo,Vt,Vu,V4,V7,Um,Un,Uo,U8,Kq,U4,Kr,U3,My,H9]
   tactic =>
    try simp only [U1] at *
    try simp only [nc2] at *
    try simp (maxSteps := 4000000) only [Hh.eq_def,hl1,hkt,Uu,Us,Uv,Ur,szN,Ut,U9]
    repeat' (first | with_reducible assumption | with_reducible refine And.intro ?_ ?_ | intro _ | omega | (rw [U0]; omega))
    refine Km [12, 13, 14, 15, 16, 17, 18, 19, 20, 21, 22, 23, 24, 25, 26, 27, 28, 29, 30, 31, 32, 33, 34, 35, 36, 37] (fun j : Nat => [(4, .sl 8 ((Na (ks.take j)).map (enc : Sl Node → D)).length), (5, .sl 9 ((N3 (ks.take j)).map (enc : List UInt8 → D)).length), (7, .d (.int .i64 j))]) (fun j : Nat => [(8, .row 1 ((Na (ks.take j)).map enc) 0), (9, .row 1 ((N3 (ks.take j)).map enc) 0)]) (fun j : Nat => j ≤ ks.length) (fun j : Nat => ks.length - j) 0 ?_ ?_ ?_
    · omega
    · ((try simp only [U2, Ka, U6, Kg, upd, Kh, Ko, Gd, Nat.reduceDiv, Nat.reduceMod, Nat.reduceMul, Nat.reduceAdd, Nat.reduceEqDiff, List.set_cons_zero, List.set_cons_succ, if_true, if_false, reduceIte]); (first | refine Wk.of_fl ?_ | skip); simp only [Wk, wkK, Gl, wkT, wk1, AV.kept, keptAll, wkO, lk, U5, and_true, true_and, and_self, Nat.reduceEqDiff, Nat.reduceLeDiff, if_true, if_false, reduceIte, reduceCtorEq, Option.isSome, false_implies]; try simp [Wk, wkK, wkT, wk1, AV.kept, keptAll, wkO, lk, U5])
      exact ⟨⟨rfl, rfl⟩, rfl, rfl⟩
    rintro j hj
    have hp1 : (Na (ks.take j)).length = j := by rw [T3, List.length_take]; omega
    have hp2 : (N3 (ks.take j)).length = j := by rw [Hd, List.length_take]; omega
    rcases Ks j l.length with ⟨hlt, hlb⟩ | ⟨hlt, hlb⟩
    · have hlt' : j < ks.length := by omega
      have hq := Ag 1 ks j hlt'
      rw [hl] at hq
      have ha := ats_at hks hlt'
      have hal := ha.lt
      have hel := Kf (0 : Int) (by omega : j < l.length)
      have hen := Kf n0 hal
      have hro : t.getD (1 + (ndss (ks.take j)).length) n0 = ks[j].root := ha.root n0
      have htj : K1 ar t (1 + (ndss (ks.take j)).length) = ks[j] := Gq ha
      have hs1 := parts_snoc hlt'
      have hs2 := labs_snoc hlt'
      (sym =>
       simp [hlb,hp1,hp2,hel,hq,hen,hro,htj,hs1,hs2,Int.toNat_natCast,Uu,Us,Uv,Ur,szN,Ut,ctx_kids7_t,ctx_kids7_c,ctx_kids7_d,ctx_kids7_b,ctx_kids7_w,Mx.eq_def,B8.eq_def,Zb,Zc,Ze,Zf,Zg,Zo,Zp,Zq,Zr,Zs,Zv,Zx,Zy,Z1,Z4,Z5,Z6,Z9,Qb,Qd,Qe,Qf,Qq,Qs,Q1,Q2,Q4,Q8,Jb,Jc,Jd,Je,Jf,Jg,Jh,Ji,Jj,Jl,Jy,Jz,J0,J5,J6,J7,J8,J9,Xa,Xb,Xc,Xd,Xe,Xf,Xv,X3,X4,X6,X7,X8,Wc,Wf,Wh,Wi,Wj,Wl,Wn,Wt,Wu,Wv,Ww,Wx,Wz,W0,W3,W4,W5,W6,W7,W8,W9,Ya,Yb,Yd,Ye,Yi,Ym,Yo,Yt,Yu,Yw,Yx,Y0,Y1,Y2,Y4,Y7,Y8,Y9,Va,Vh,Vj,Vm,Vo,Vt,Vu,V3,V4,V9,Uk,Um,Un,Uo,Up,U8,Kq,U4,Kr,U3,My,H9]
       tactic =>
        try simp only [U1] at *
        try simp only [nc2] at *
        try simp (maxSteps := 4000000) only [hlb,hp1,hp2,hel,hq,hen,hro,htj,hs1,hs2,Int.toNat_natCast,Uu,Us,Uv,Ur,szN,Ut,U9]
        repeat' (first | with_reducible assumption | with_reducible refine And.intro ?_ ?_ | intro _ | omega | (rw [U0]; omega))
        · exact ⟨_, ha⟩
        · have hq1 : (Na (ks.take (j + 1))).length = j + 1 := by rw [T3, List.length_take]; omega
          have hq2 : (N3 (ks.take (j + 1))).length = j + 1 := by rw [Hd, List.length_take]; omega
          refine ⟨j + 1, ?_, by omega, by omega⟩
          ((try simp only [U2, Ka, U6, Kg, upd, Kh, Ko, Gd, Nat.reduceDiv, Nat.reduceMod, Nat.reduceMul, Nat.reduceAdd, Nat.reduceEqDiff, List.set_cons_zero, List.set_cons_succ, if_true, if_false, reduceIte]); (first | refine Wk.of_fl ?_ | skip); simp only [Wk, wkK, Gl, wkT, wk1, AV.kept, keptAll, wkO, lk, U5, and_true, true_and, and_self, Nat.reduceEqDiff, Nat.reduceLeDiff, if_true, if_false, reduceIte, reduceCtorEq, Option.isSome, false_implies]; try simp [Wk, wkK, wkT, wk1, AV.kept, keptAll, wkO, lk, U5, hq1, hq2])
          exact hs1)
    · have hjk : j = ks.length := by omega
      (sym =>
       simp [hlb,hp1,hp2,Hh.eq_def,hkt,Uu,Us,Uv,Ur,szN,Ut,ctx_kids7_t,ctx_kids7_d,Zb,Zc,Ze,Zf,Zg,Zo,Z6,Qb,Qd,Qn,Qo,Qp,Qq,Qs,Q1,Q2,Q4,Q8,Jh,Ji,Jk,Jy,Jz,J0,J5,J6,J7,J8,J9,Xa,Xb,Xc,Xh,X4,X6,X7,Wa,Wb,Wc,Wf,Wh,Wi,Wj,Wt,Wu,Wv,Ww,Ya,Yb,Yd,Ye,Yi,Y0,Y1,Y4,Y7,Y8,Y9,Va,Vt,Vu,Ul,Um,Un,Up,U8,Kq,U4,Kr,U3,My,H9]
       tactic =>
        try simp only [U1] at *
        try simp only [nc2] at *
        try simp (maxSteps := 4000000) only [hlb,hp1,hp2,Hh.eq_def,hkt,Uu,Us,Uv,Ur,szN,Ut,U9]
        repeat' (first | with_reducible assumption | with_reducible refine And.intro ?_ ?_ | intro _ | omega | (rw [U0]; omega))
        all_goals rw [hjk, List.take_length]))
end Go.Am.Ty
set_option linter.unusedSimpArgs false
set_option linter.unusedVariables false
set_option maxHeartbeats 1000000
namespace Go.Am.Ty
open Go.Proofs Go.Rose Go.Rose.Rose
open Enc (enc dec)
def alikeX (x y : Rose Node) : Bool := x.root.kind == y.root.kind && N3 x.kids == N3 y.kids
theorem Ii {t : List Node} {x : Rose Node} (h : At ar t 0 x) : kids7 t = (⟨Na x.kids⟩, ⟨N3 x.kids⟩) := by unfold kids7; rw [Gq h]
noncomputable def Bc : Con := Bg (fun (a b : Sl Node) => Bh a.l ∧ Bh b.l) (fun a b => alikeX (K1 ar a.l 0) (K1 ar b.l 0))
theorem labs_le {t : List Node} {x : Rose Node} (h : At ar t 0 x) : (N3 x.kids).length ≤ t.length := by
  rw [Hd]
  have hle := ats_le h.kids.1 (by have := h.lt; omega)
  have : ∀ ks : List (Rose Node), ks.length ≤ (ndss ks).length := by
    intro ks
    induction ks with
    | nil => simp
    | cons y ys ih => simp only [List.length_cons, ndss, List.length_append]; have := N8 y; omega
  have := this x.kids
  omega
noncomputable def E5 : Ctx := ⟨tab, lkC [(15, Mw)], 60, lkB [], [], false⟩
theorem Eb : E5.τ = tab := rfl
theorem R3 : E5.Γ = lkC [(15, Mw)] := rfl
theorem Ec : E5.dp = 60 := rfl
theorem R4 : E5.Δ = lkB [] := rfl
theorem R2 : E5.wr = false := rfl
set_option maxRecDepth 100000 in
theorem good_alike7 : Gj Tryz.prog (14, Bc) := by
  refine ⟨U7 Tryz.func14 (by kernel_rfl) rfl, ?_⟩
  have K : Ky Tryz.prog E5 := Kd K6 Ki (by
    intro p hp
    simp only [List.mem_cons, List.not_mem_nil, or_false] at hp
    rcases hp with rfl
    · exact good_kids7) (by simp)
  obtain ⟨c, hc⟩ : ∃ c, Tryz.f14.body = some c := ⟨_, rfl⟩
  refine Ke K Tryz.func14 hc [.tmp 4] rfl 49 rfl (fun cvs hpre => ?_)
  change Bc.pre cvs at hpre
  unfold Bc at hpre
  obtain ⟨⟨a⟩, ⟨b⟩, rfl, hTa, hTb⟩ := Gi hpre
  obtain ⟨ha, hNa, x, hxt, hx⟩ : Bh a := hTa
  obtain ⟨hb, hNb, y, hyt, hy⟩ : Bh b := hTb
  have aa : At ar a 0 x := by rw [hxt]; exact Ns hx
  have ab : At ar b 0 y := by rw [hyt]; exact Ns hy
  have tx : K1 ar a 0 = x := Gq aa
  have ty : K1 ar b 0 = y := Gq ab
  have la := aa.lt
  have lb := ab.lt
  have ka := Ii aa
  have kb := Ii ab
  have ea := Kf n0 la
  have eb := Kf n0 lb
  have ra : a.getD 0 n0 = x.root := aa.root n0
  have rb : b.getD 0 n0 = y.root := ab.root n0
  have pa : Bh a := ⟨ha, hNa, x, hxt, hx⟩
  have pb : Bh b := ⟨hb, hNb, y, hyt, hy⟩
  have lla := labs_le aa
  have llb := labs_le ab
  obtain ⟨X, hX⟩ : ∃ X, N3 x.kids = X := ⟨_, rfl⟩
  obtain ⟨Y, hY⟩ : ∃ Y, N3 y.kids = Y := ⟨_, rfl⟩
  have hf : alikeX x y = (x.root.kind == y.root.kind && X == Y) := by unfold alikeX; rw [hX, hY]
  rw [hX] at ka lla
  rw [hY] at kb llb
  clear hxt hyt hpre
  simp only [Tryz.f14, Option.some.injEq] at hc
  subst hc
  refine Kw 3 (of_decide_eq_true (by kernel_rfl)) ?_
  by_cases hk : x.root.kind = y.root.kind
  · have hkb : (x.root.kind != y.root.kind) = false := by simp [hk]
    have hke : (x.root.kind == y.root.kind) = true := by simp [hk]
    rw [hke, Bool.true_and] at hf
    by_cases hlen : X.length = Y.length
    · have hlb : ((X.length : Int) != (Y.length : Int)) = false := by simp [hlen]
      (sym =>
       simp [tx,ty,ka,kb,ea,eb,ra,rb,hkb,hlb,hf,Hh.eq_def,Uu,Us,Uv,Ur,szN,Ut,Eb,R3,Ec,R4,R2,Bc.eq_def,Mw.eq_def,Zb,Zc,Ze,Zf,Zh,Zi,Zj,Zk,Zl,Zm,Zo,Zp,Zq,Zs,Zv,Zx,Zy,Z6,Z8,Z9,Qb,Qd,Qe,Qf,Qg,Qq,Qr,Qs,Q1,Q2,Q4,Q5,Q6,Q8,Q9,Ja,Jf,Jj,Jl,Jw,J3,J4,J5,J6,J8,J9,Xb,Xc,Xf,Xn,Xo,Xv,X3,X4,X5,X6,X7,X8,X9,Wc,Wd,We,Wf,Wg,Wh,Wi,Wj,Wp,Wt,Wu,Wv,Ww,Wx,Wy,Wz,W0,W4,W5,W6,W7,W8,Ya,Yb,Ye,Yi,Ym,Yt,Yw,Yy,Y0,Y1,Y5,Y7,Y8,Vb,Vc,Vd,Ve,Vf,Vg,Vj,Vo,Vs,Vt,Vu,V4,V5,Ul,Um,Un,Up,Uq,U8,Kq,U4,U3,My]
       tactic =>
        try simp only [U1] at *
        try simp only [nc2] at *
        try simp (maxSteps := 4000000) only [tx,ty,ka,kb,ea,eb,ra,rb,hkb,hlb,hf,Hh.eq_def,Uu,Us,Uv,Ur,szN,Ut,U9]
        repeat' (first | with_reducible assumption | with_reducible refine And.intro ?_ ?_ | intro _ | omega | (rw [U0]; omega))
        · (with_reducible refine Kl ?_; kernel_rfl)
        refine Km [4, 34, 35, 36, 37, 38, 39, 40, 41, 42, 43, 44, 45, 46, 47, 48] (fun k : Nat => [(9, .d (.int .i64 k))]) (fun k : Nat => []) (fun k : Nat => k ≤ X.length ∧ ∀ j, j < k → X.getD j [] = Y.getD j []) (fun k : Nat => X.length - k) 0 ?_ ?_ ?_
        · simp
        · ((try simp only [U2, Ka, U6, Kg, upd, Kh, Ko, Gd, Nat.reduceDiv, Nat.reduceMod, Nat.reduceMul, Nat.reduceAdd, Nat.reduceEqDiff, List.set_cons_zero, List.set_cons_succ, if_true, if_false, reduceIte]); (first | refine Wk.of_fl ?_ | skip); simp only [Wk, wkK, Gl, wkT, wk1, AV.kept, keptAll, wkO, lk, U5, and_true, true_and, and_self, Nat.reduceEqDiff, Nat.reduceLeDiff, if_true, if_false, reduceIte, reduceCtorEq, Option.isSome, false_implies]; try simp [Wk, wkK, wkT, wk1, AV.kept, keptAll, wkO, lk, U5])
        rintro k ⟨hkk, hno⟩
        rcases Ks k X.length with ⟨hlt, hltb⟩ | ⟨hlt, hltb⟩
        · have zz1 := Kf ([] : List UInt8) hlt
          have zz2 := Kf ([] : List UInt8) (show k < Y.length by omega)
          (sym =>
           simp [hltb,hf,zz1,zz2,Uu,Us,Uv,Ur,szN,Ut,Eb,R3,Ec,R4,R2,Mw.eq_def,Zb,Zc,Ze,Zf,Zg,Zh,Zi,Zj,Zk,Zl,Zm,Zo,Zp,Zq,Zv,Zy,Z6,Qb,Qd,Qn,Qo,Qp,Qq,Qr,Qs,Q1,Q2,Q4,Q5,Q6,Q8,Jk,Jy,Jz,J0,J5,J6,J7,J8,J9,Xa,Xb,Xc,Xf,X3,X4,X5,X6,X7,X8,Wb,Wc,Wd,We,Wf,Wg,Wh,Wi,Wj,Wp,Wt,Wu,Wv,Ww,W4,W5,Ya,Yb,Yd,Ye,Yg,Yi,Yk,Ym,Yu,Yz,Y0,Y1,Y5,Y7,Y8,Y9,Vr,Vt,Vu,V4,V5,Uk,Ul,Um,Un,Uo,Up,Uq,U8,Kq,U4,U3,My]
           tactic =>
            try simp only [U1] at *
            try simp only [nc2] at *
            try simp (maxSteps := 4000000) only [hltb,hf,zz1,zz2,Uu,Us,Uv,Ur,szN,Ut,U9]
            repeat' (first | with_reducible assumption | with_reducible refine And.intro ?_ ?_ | intro _ | omega | (rw [U0]; omega))
            · (with_reducible refine Kl ?_; kernel_rfl)
            · rename_i h
              symm
              rw [beq_eq_false_iff_ne]
              intro e
              exact h (by rw [e])
            · rename_i h
              refine ⟨k + 1, by ((try simp only [U2, Ka, U6, Kg, upd, Kh, Ko, Gd, Nat.reduceDiv, Nat.reduceMod, Nat.reduceMul, Nat.reduceAdd, Nat.reduceEqDiff, List.set_cons_zero, List.set_cons_succ, if_true, if_false, reduceIte]); (first | refine Wk.of_fl ?_ | skip); simp only [Wk, wkK, Gl, wkT, wk1, AV.kept, keptAll, wkO, lk, U5, and_true, true_and, and_self, Nat.reduceEqDiff, Nat.reduceLeDiff, if_true, if_false, reduceIte, reduceCtorEq, Option.isSome, false_implies]; try simp [Wk, wkK, wkT, wk1, AV.kept, keptAll, wkO, lk, U5]), by omega, fun j hj => ?_, by omega⟩
              by_cases hjk : j = k
              · subst hjk; exact h
              · exact hno j (by omega))
        · (sym =>
           simp [hltb,hf,Uu,Us,Uv,Ur,szN,Ut,Eb,Ec,Zb,Zc,Ze,Zf,Zg,Zo,Z6,Qb,Qd,Qn,Qo,Qp,Qq,Qs,Q1,Q2,Q4,Q8,Jk,Jy,Jz,J0,J5,J6,J8,J9,Xa,Xb,Xc,Xf,X4,X6,X7,Wa,Wb,Wc,Wf,Wh,Wi,Wj,Wt,Wu,Wv,Ww,Ya,Yb,Yd,Ye,Yi,Y0,Y1,Y5,Y7,Y8,Y9,Vt,Vu,V5,Ul,Um,Un,Uo,Up,U8,Kq,U4,U3,My]
           tactic =>
            try simp only [U1] at *
            try simp only [nc2] at *
            try simp (maxSteps := 4000000) only [hltb,hf,Uu,Us,Uv,Ur,szN,Ut,U9]
            symm
            rw [beq_iff_eq]
            refine List.ext_getElem hlen fun j h1 h2 => ?_
            have := hno j (by omega)
            simpa [h1, h2] using this))
    · have hlb : ((X.length : Int) != (Y.length : Int)) = true := by
        rw [bne_iff_ne]
        omega
      have hxy : (X == Y) = false := by
        rw [beq_eq_false_iff_ne]
        intro e
        exact hlen (by rw [e])
      rw [hxy] at hf
      (sym =>
       simp [tx,ty,ka,kb,ea,eb,ra,rb,hkb,hlb,hf,Hh.eq_def,Uu,Us,Uv,Ur,szN,Ut,Eb,R3,Ec,R4,R2,Bc.eq_def,Mw.eq_def,Zb,Zc,Ze,Zf,Zh,Zi,Zj,Zk,Zl,Zm,Zo,Zp,Zq,Zs,Zv,Zx,Zy,Z6,Z8,Z9,Qb,Qd,Qe,Qf,Qg,Qn,Qo,Qp,Qq,Qr,Qs,Q1,Q2,Q4,Q5,Q6,Q8,Q9,Ja,Jf,Jj,Jk,Jl,Jw,J3,J4,J5,J6,J8,J9,Xb,Xc,Xf,Xn,Xo,Xv,X3,X4,X5,X6,X7,Wb,Wc,Wd,We,Wf,Wg,Wh,Wi,Wj,Wp,Wt,Wu,Wv,Ww,Wx,Wy,Wz,W0,W4,W5,W6,W7,W8,Ya,Yb,Ye,Yi,Ym,Yt,Yw,Yy,Y0,Y1,Y5,Y7,Y8,Vb,Vc,Vd,Ve,Vf,Vg,Vj,Vo,Vs,Vt,Vu,V4,V5,Uk,Ul,Um,Un,Up,Uq,U8,Kq,U4,U3,My]
       tactic =>
        try simp only [U1] at *
        try simp only [nc2] at *
        try simp (maxSteps := 4000000) only [tx,ty,ka,kb,ea,eb,ra,rb,hkb,hlb,hf,Hh.eq_def,Uu,Us,Uv,Ur,szN,Ut,U9]
        repeat' (first | with_reducible assumption | with_reducible refine And.intro ?_ ?_ | intro _ | omega | (rw [U0]; omega))
        all_goals (with_reducible refine Kl ?_; kernel_rfl))
  · have hkb : (x.root.kind != y.root.kind) = true := by simp [hk]
    have hke : (x.root.kind == y.root.kind) = false := by simp [hk]
    rw [hke, Bool.false_and] at hf
    (sym =>
     simp [tx,ty,ea,eb,ra,rb,hkb,hf,Uu,Us,Uv,Ur,szN,Ut,Eb,R3,Ec,R4,R2,Bc.eq_def,Mw.eq_def,Zb,Zc,Ze,Zf,Zh,Zi,Zj,Zk,Zl,Zm,Zo,Zp,Zq,Zs,Zv,Zx,Zy,Qb,Qd,Qn,Qo,Qp,Qq,Qr,Qs,Q1,Q2,Q4,Q5,Q6,Q8,Jk,Jw,J3,J4,J5,J6,J8,J9,Xb,Xc,Xf,Xn,Xo,Xv,X4,X5,X6,X7,Wb,Wc,Wd,We,Wf,Wg,Wh,Wi,Wj,Wp,Wt,Wu,Wv,Ww,Wy,W0,W4,W5,W6,W7,W8,Ya,Yb,Ye,Yi,Ym,Yt,Yw,Yy,Y0,Y1,Y7,Y8,Vb,Vc,Vd,Ve,Vf,Vg,Vj,Vs,Vt,Vu,V4,V5,Uk,Ul,Um,Un,Up,Uq,U8,Kq,U4,U3,My]
     tactic =>
      try simp only [U1] at *
      try simp only [nc2] at *
      try simp (maxSteps := 4000000) only [tx,ty,ea,eb,ra,rb,hkb,hf,Uu,Us,Uv,Ur,szN,Ut,U9]
      repeat' (first | with_reducible assumption | with_reducible refine And.intro ?_ ?_ | intro _ | omega | (rw [U0]; omega))
      all_goals (with_reducible refine Kl ?_; kernel_rfl))
end Go.Am.Ty
set_option linter.unusedSimpArgs false
set_option linter.unusedVariables false
set_option maxHeartbeats 1000000
namespace Go.Am.Ty
open Go.Proofs Go.Rose Go.Rose.Rose
def clrN (n : Node) : Node := ⟨n.kind, [], n.n⟩
def M2 : Rose Node → Rose Node
  | mk n ks => mk (clrN n) ks
theorem Fu : ∀ x : Rose Node, nds (M2 x) = clr (nds x)
  | mk n ks => by rw [M2, Ho, Ho]; rfl
theorem wf_clrX : ∀ {x : Rose Node}, wf ar x → wf ar (M2 x)
  | mk n ks, h => ⟨h.1, h.2⟩
theorem clrX_clrX : ∀ x : Rose Node, M2 (M2 x) = M2 x
  | mk n ks => rfl
def agX (f : Bool) (x y : Rose Node) : Bool := ov f (M2 x) (M2 y)
theorem agX_clr {f : Bool} {x y : Rose Node} : agX f (M2 x) (M2 y) = agX f x y := by unfold agX; rw [clrX_clrX, clrX_clrX]
theorem agX_ov {f : Bool} : ∀ {x y : Rose Node}, x.root.name = y.root.name → agX f x y = ov f x y
  | mk n ks, mk m qs, h => by
    simp only [root] at h
    unfold agX
    rw [M2, M2, ov_mk, ov_mk]
    simp only [root, kids, sameN, clrN, h, beq_self_eq_true, Bool.true_and]
    rfl
theorem ovs_iff {f : Bool} : ∀ {ks qs : List (Rose Node)}, ks.length = qs.length → (ovs f ks qs = true ↔ N3 ks = N3 qs ∧ ∀ j, j < ks.length → agX f (ks.getD j (mk n0 [])) (qs.getD j (mk n0 [])) = true)
  | [], [], _ => by rw [ovs]; simp [N3]
  | [], _ :: _, h => by simp at h
  | _ :: _, [], h => by simp at h
  | x :: xs, y :: ys, h => by
    rw [ovs, Bool.and_eq_true, Bool.and_eq_true, ovs_iff (by simpa using h), beq_iff_eq]
    constructor
    · rintro ⟨h1, h2, h3, h4⟩
      refine ⟨by unfold N3 at *; simp [h1, h3], fun j hj => ?_⟩
      cases j with
      | zero => simpa [agX_ov h1] using h2
      | succ j => exact h4 j (by simpa using hj)
    · rintro ⟨h1, h2⟩
      unfold N3 at h1
      rw [List.map_cons, List.map_cons, List.cons.injEq] at h1
      have h0 := h2 0 (by simp)
      simp only [List.getD_cons_zero] at h0
      rw [agX_ov h1.1] at h0
      exact ⟨h1.1, h0, h1.2, fun j hj => h2 (j + 1) (by simpa using hj)⟩
theorem num_eq {n m : Node} (hk : n.kind = m.kind) (ha : ar n = ar m) (h0 : n.kind ≠ 0) (n1 : B5 n = true) (n2 : B5 m = true) (p1 : n.kind ≠ 8 ∧ n.kind ≠ 9) : n.n = m.n := by
  have t1 := D1 n1
  have t2 := D1 n2
  rw [ha, ← t2] at t1
  unfold Pu at t1
  rw [hk] at t1
  unfold B5 at n1 n2
  rw [if_neg (by omega)] at n1
  rw [if_neg (by omega)] at n2
  by_cases h5 : 1 ≤ n.kind ∧ n.kind ≤ 5
  · rw [if_pos h5] at n1
    rw [if_pos (by omega)] at n2
    have := of_decide_eq_true n1
    have := of_decide_eq_true n2
    omega
  · rw [if_neg h5] at n1
    by_cases h6 : m.kind = 6 ∨ m.kind = 7
    · rw [if_neg (by omega), if_pos h6, if_neg (by omega), if_pos h6] at t1
      exact t1
    · rw [if_neg (by omega), if_neg (by omega)] at n1
      cases n1
theorem ag_iff {f : Bool} {x y : Rose Node} (hx : wf ar x) (hy : wf ar y) (nx : Cp (nds x)) (ny : Cp (nds y)) (px : Nt (nds x) = true) (h0 : x.root.kind ≠ 0) (h1 : y.root.kind ≠ 0) :
    agX f x y = true ↔ alikeX x y = true ∧ ∀ j, j < x.kids.length → agX f (x.kids.getD j (mk n0 [])) (y.kids.getD j (mk n0 [])) = true := by
  have k1 := nx _ (Ld x)
  have k2 := ny _ (Ld y)
  have k3 := P9.1 px _ (Ld x)
  obtain ⟨n, ks⟩ := x
  obtain ⟨m, qs⟩ := y
  simp only [root, kids] at *
  unfold agX alikeX
  rw [M2, M2, ov_mk]
  simp only [root, kids, clrN, beq_eq_false_iff_ne.2 h0, beq_eq_false_iff_ne.2 h1, Bool.or_self, cond_false, Bool.and_eq_true, beq_iff_eq, sameN, true_and]
  constructor
  · rintro ⟨⟨g1, g2⟩, g3⟩
    have hl : ks.length = qs.length := by
      rw [hx.1, hy.1]
      unfold ar
      rw [g1, g2]
    obtain ⟨e1, e2⟩ := (ovs_iff hl).1 g3
    exact ⟨⟨g1, e1⟩, e2⟩
  · rintro ⟨⟨g1, g2⟩, g3⟩
    have hl : ks.length = qs.length := by rw [← Hd (ks := ks), g2, Hd]
    exact ⟨⟨g1, num_eq g1 (by rw [← hx.1, ← hy.1, hl]) h0 k1 k2 k3⟩, (ovs_iff hl).2 ⟨g2, g3⟩⟩
end Go.Am.Ty
set_option linter.unusedSimpArgs false
set_option linter.unusedVariables false
set_option maxHeartbeats 1000000
namespace Go.Am.Ty
open Go.Proofs Go.Rose Go.Rose.Rose
open Enc (enc dec)
theorem agX_dyn {f : Bool} : ∀ {x y : Rose Node}, x.root.kind = 0 ∨ y.root.kind = 0 → agX f x y = askB f y.root
  | mk n ks, mk m qs, h => by
    unfold agX
    rw [M2, M2, ov_mk]
    simp only [root, clrN] at h ⊢
    have : (n.kind == 0 || m.kind == 0) = true := by rw [Bool.or_eq_true, beq_iff_eq, beq_iff_eq]; exact h
    rw [this]
    rfl
theorem clr_len (t : List Node) : (clr t).length = t.length := by cases t <;> rfl
theorem parts_at {ks : List (Rose Node)} {j : Nat} (h : j < ks.length) : (Na ks).getD j ⟨[]⟩ = Sl.mk (clr (nds (ks.getD j (mk n0 [])))) := by
  unfold Na
  simp [h]
theorem clr_numb {t : List Node} (h : Cp t) : Cp (clr t) := by
  cases t with
  | nil => exact h
  | cons n r =>
    intro m hm
    rcases List.mem_cons.1 hm with rfl | hm
    · have := h n (by simp)
      exact this
    · exact h m (by simp [hm])
theorem clr_plain {t : List Node} (h : Nt t = true) : Nt (clr t) = true := by
  cases t with
  | nil => exact h
  | cons n r =>
    rw [P9] at *
    intro m hm
    rcases List.mem_cons.1 hm with rfl | hm
    · exact h n (by simp)
    · exact h m (by simp [hm])
theorem wfs_at {ks : List (Rose Node)} (h : wfs ar ks) {j : Nat} (hj : j < ks.length) : wf ar (ks.getD j (mk n0 [])) := by
  induction ks generalizing j with
  | nil => simp at hj
  | cons x xs ih =>
    cases j with
    | zero => exact h.1
    | succ j => exact ih h.2 (by simpa using hj)
theorem mem_kid {ks : List (Rose Node)} {j : Nat} (hj : j < ks.length) {n : Node} (hn : n ∈ nds (ks.getD j (mk n0 []))) : n ∈ ndss ks := by
  induction ks generalizing j with
  | nil => simp at hj
  | cons x xs ih =>
    rw [ndss, List.mem_append]
    cases j with
    | zero => exact .inl hn
    | succ j => exact .inr (ih (by simpa using hj) hn)
theorem kid_len {ks : List (Rose Node)} {j : Nat} (hj : j < ks.length) : (nds (ks.getD j (mk n0 []))).length ≤ (ndss ks).length := by
  induction ks generalizing j with
  | nil => simp at hj
  | cons x xs ih =>
    rw [ndss, List.length_append]
    cases j with
    | zero => simp
    | succ j => have := ih (j := j) (by simpa using hj); simp only [List.getD_cons_succ]; omega
theorem sub7 {x : Rose Node} (hx : wf ar x) (hN : Cp (nds x)) (hp : Nt (nds x) = true) (hl : (nds x).length ≤ 10000) {j : Nat} (hj : j < x.kids.length) :
    Bh (clr (nds (x.kids.getD j (mk n0 [])))) ∧ Nt (clr (nds (x.kids.getD j (mk n0 [])))) = true ∧ (clr (nds (x.kids.getD j (mk n0 [])))).length < (nds x).length ∧ K1 ar (clr (nds (x.kids.getD j (mk n0 [])))) 0 = M2 (x.kids.getD j (mk n0 [])) := by
  obtain ⟨n, ks⟩ := x
  simp only [kids] at *
  rw [Ho] at *
  have hlen := kid_len hj
  have hw := wfs_at hx.2 hj
  have hlt : (clr (nds (ks.getD j (mk n0 [])))).length < (n :: ndss ks).length := by rw [clr_len, List.length_cons]; omega
  have hn : Cp (nds (ks.getD j (mk n0 []))) := fun m hm => hN m (List.mem_cons_of_mem _ (mem_kid hj hm))
  have hpp : Nt (nds (ks.getD j (mk n0 []))) = true := by
    rw [P9] at *
    exact fun m hm => hp m (List.mem_cons_of_mem _ (mem_kid hj hm))
  refine ⟨⟨by omega, clr_numb hn, M2 _, (Fu _).symm, wf_clrX hw⟩, clr_plain hpp, hlt, ?_⟩
  rw [← Fu]
  exact Gq (Ns (wf_clrX hw))
noncomputable def N7 (n : Nat) : Con := Bg (fun (a b : Sl Node) => Bh a.l ∧ Bh b.l ∧ Nt a.l = true ∧ Nt b.l = true ∧ a.l.length < n) (fun a b => agX false (K1 ar a.l 0) (K1 ar b.l 0))
theorem con_Agree7_zero : ∀ c, ¬ (N7 0).pre c := by
  intro c h
  unfold N7 at h
  obtain ⟨_, _, _, _, _, _, _, h⟩ := Gi h
  omega
noncomputable def Fd (n : Nat) : Ctx := ⟨tab, lkC [(14, Bc), (15, Mw), (5, (N7 n))], 60, lkB [], [], false⟩
theorem Sm (n : Nat) : (Fd n).τ = tab := rfl
theorem R9 (n : Nat) : (Fd n).Γ = lkC [(14, Bc), (15, Mw), (5, (N7 n))] := rfl
theorem Cj (n : Nat) : (Fd n).dp = 60 := rfl
theorem Aa (n : Nat) : (Fd n).Δ = lkB [] := rfl
theorem ctx_Agree7_w (n : Nat) : (Fd n).wr = false := rfl
set_option maxRecDepth 100000 in
theorem step_Agree7 (n : Nat) (ih : Gj Tryz.prog (5, N7 n)) : Gj Tryz.prog (5, (N7 (n + 1))) := by
  refine ⟨U7 Tryz.func5 (by kernel_rfl) rfl, ?_⟩
  have K : Ky Tryz.prog (Fd n) := Kd K6 Ki (by
    intro p hp
    simp only [List.mem_cons, List.not_mem_nil, or_false] at hp
    rcases hp with rfl | rfl | rfl
    · exact good_alike7
    · exact good_kids7
    · exact ih) (by simp)
  obtain ⟨c, hc⟩ : ∃ c, Tryz.f5.body = some c := ⟨_, rfl⟩
  refine Ke K Tryz.func5 hc [.tmp 4] rfl 52 rfl (fun cvs hpre => ?_)
  change (N7 (n + 1)).pre cvs at hpre
  unfold N7 at hpre
  obtain ⟨⟨a⟩, ⟨b⟩, rfl, hTa, hTb, hpa, hpb, hn⟩ := Gi hpre
  have pa : Bh a := hTa
  have pb : Bh b := hTb
  obtain ⟨ha, hNa, x, hxt, hx⟩ : Bh a := hTa
  obtain ⟨hb, hNb, y, hyt, hy⟩ : Bh b := hTb
  simp only at hpa hpb hn
  have aa : At ar a 0 x := by rw [hxt]; exact Ns hx
  have ab : At ar b 0 y := by rw [hyt]; exact Ns hy
  have tx : K1 ar a 0 = x := Gq aa
  have ty : K1 ar b 0 = y := Gq ab
  have la := aa.lt
  have lb := ab.lt
  have ka := Ii aa
  have kb := Ii ab
  have ea := Kf n0 la
  have eb := Kf n0 lb
  have ra : a.getD 0 n0 = x.root := aa.root n0
  have rb : b.getD 0 n0 = y.root := ab.root n0
  have lla := labs_le aa
  rw [Hd] at lla
  have hdyn := agX_dyn (f := false) (x := x) (y := y)
  have hsa := @sub7 x hx (by rw [← hxt]; exact hNa) (by rw [← hxt]; exact hpa) (by rw [← hxt]; exact ha)
  have hsb := @sub7 y hy (by rw [← hyt]; exact hNb) (by rw [← hyt]; exact hpb) (by rw [← hyt]; exact hb)
  have hiff := ag_iff (f := false) hx hy (by rw [← hxt]; exact hNa) (by rw [← hyt]; exact hNb) (by rw [← hxt]; exact hpa)
  rw [← hxt] at hsa
  rw [← hyt] at hsb
  obtain ⟨v, hv⟩ : ∃ v, agX false x y = v := ⟨_, rfl⟩
  rw [hv] at hdyn hiff
  clear hxt hyt hpre
  simp only [Tryz.f5, Option.some.injEq] at hc
  subst hc
  refine Kw 3 (of_decide_eq_true (by kernel_rfl)) ?_
  by_cases hx0 : x.root.kind = 0
  · have hxb : (x.root.kind == 0) = true := by simp [hx0]
    have hv1 : v = true := hdyn (.inl hx0)
    (sym =>
     simp [hxb,hv1,tx,ty,hv,ka,kb,ea,eb,ra,rb,Hh.eq_def,Uu,Us,Uv,Ur,szN,Ut,Sm,Cj,N7.eq_def,Zb,Zc,Zd,Ze,Zf,Zo,Zp,Zq,Zs,Zt,Zv,Zx,Zy,Qb,Qd,Qn,Qo,Qp,Qq,Qs,Q1,Q2,Q4,Q8,Jk,Jw,J3,J4,J5,J6,J8,J9,Xb,Xc,Xf,Xn,Xo,Xv,X4,X6,X7,Wb,Wc,Wf,Wh,Wi,Wj,Wt,Wu,Wv,Ww,Wy,W0,W6,W7,W8,W9,Ya,Yb,Ye,Yi,Ym,Yt,Yw,Yy,Y0,Y1,Y7,Y8,Vb,Vc,Vd,Ve,Vf,Vg,Vj,Vs,Vt,Vu,V4,V5,Uk,Um,Un,Up,U8,Ku,U4,Kr,U3]
     tactic =>
      try simp only [U1] at *
      try simp only [nc2] at *
      try simp (maxSteps := 4000000) only [hxb,hv1,tx,ty,hv,ka,kb,ea,eb,ra,rb,Hh.eq_def,Uu,Us,Uv,Ur,szN,Ut,U9]
      repeat' (first | with_reducible assumption | with_reducible refine And.intro ?_ ?_ | intro _ | omega | (rw [U0]; omega)))
  have hxb : (x.root.kind == 0) = false := by simp [hx0]
  by_cases hy0 : y.root.kind = 0
  · have hyb : (y.root.kind == 0) = true := by simp [hy0]
    have hv1 : v = true := hdyn (.inr hy0)
    (sym =>
     simp [hxb,hyb,hv1,tx,ty,hv,ka,kb,ea,eb,ra,rb,Hh.eq_def,Uu,Us,Uv,Ur,szN,Ut,Sm,Cj,N7.eq_def,Zb,Zc,Zd,Ze,Zf,Zo,Zp,Zq,Zs,Zt,Zv,Zx,Zy,Qb,Qd,Qn,Qo,Qp,Qq,Qs,Q1,Q2,Q4,Q8,Jk,Jw,J3,J4,J5,J6,J8,J9,Xb,Xc,Xf,Xn,Xo,Xv,X4,X6,X7,Wb,Wc,Wf,Wh,Wi,Wj,Wt,Wu,Wv,Ww,Wy,W0,W6,W7,W8,W9,Ya,Yb,Ye,Yi,Ym,Yt,Yw,Yy,Y0,Y1,Y7,Y8,Vb,Vc,Vd,Ve,Vf,Vg,Vj,Vs,Vt,Vu,V4,V5,Uk,Ul,Um,Un,Up,U8,Ku,U4,Kr,U3]
     tactic =>
      try simp only [U1] at *
      try simp only [nc2] at *
      try simp (maxSteps := 4000000) only [hxb,hyb,hv1,tx,ty,hv,ka,kb,ea,eb,ra,rb,Hh.eq_def,Uu,Us,Uv,Ur,szN,Ut,U9]
      repeat' (first | with_reducible assumption | with_reducible refine And.intro ?_ ?_ | intro _ | omega | (rw [U0]; omega)))
  have hyb : (y.root.kind == 0) = false := by simp [hy0]
  specialize hiff hx0 hy0
  cases hal : alikeX x y with
  | false =>
    have hv1 : v = false := by
      rw [← Bool.not_eq_true]
      intro e
      have := (hiff.1 e).1
      rw [hal] at this
      cases this
    (sym =>
     simp [hxb,hyb,hal,hv1,tx,ty,hv,ka,kb,ea,eb,ra,rb,Hh.eq_def,Uu,Us,Uv,Ur,szN,Ut,Sm,R9,Cj,Aa,N7.eq_def,Bc.eq_def,Mw.eq_def,Zb,Zc,Zd,Ze,Zf,Zo,Zp,Zq,Zs,Zt,Zv,Zx,Zy,Z9,Qb,Qc,Qd,Qe,Qf,Qn,Qo,Qp,Qq,Qs,Q1,Q2,Q4,Q8,Jf,Jj,Jk,Jl,Jw,J3,J4,J5,J6,J8,J9,Xb,Xc,Xf,Xn,Xo,Xv,X3,X4,X6,X7,Wb,Wc,Wf,Wh,Wi,Wj,Wt,Wu,Wv,Ww,Wx,Wy,Wz,W0,W6,W7,W8,W9,Ya,Yb,Ye,Yf,Yi,Yj,Ym,Yt,Yw,Yy,Y0,Y1,Y7,Y8,Vb,Vc,Vd,Ve,Vf,Vg,Vj,Vo,Vq,Vs,Vt,Vu,V4,V5,Uk,Ul,Um,Un,Uo,Up,U8,Ku,U4,Kr,U3]
     tactic =>
      try simp only [U1] at *
      try simp only [nc2] at *
      try simp (maxSteps := 4000000) only [hxb,hyb,hal,hv1,tx,ty,hv,ka,kb,ea,eb,ra,rb,Hh.eq_def,Uu,Us,Uv,Ur,szN,Ut,U9]
      repeat' (first | with_reducible assumption | with_reducible refine And.intro ?_ ?_ | intro _ | omega | (rw [U0]; omega)))
  | true =>
    have hll : x.kids.length = y.kids.length := by
      unfold alikeX at hal
      rw [Bool.and_eq_true, beq_iff_eq, beq_iff_eq] at hal
      have := congrArg List.length hal.2
      rw [Hd, Hd] at this
      exact this
    have pl : (Na x.kids).length = x.kids.length := T3
    (sym =>
     simp [hxb,hyb,hal,tx,ty,hv,ka,kb,ea,eb,ra,rb,Hh.eq_def,Uu,Us,Uv,Ur,szN,Ut,Sm,R9,Cj,Aa,N7.eq_def,Bc.eq_def,Mw.eq_def,Zb,Zc,Zd,Ze,Zf,Zo,Zp,Zq,Zs,Zt,Zv,Zx,Zy,Z8,Z9,Qb,Qc,Qd,Qe,Qf,Qg,Qq,Qs,Q1,Q2,Q4,Q8,Q9,Ja,Jf,Jj,Jl,Jw,J3,J4,J5,J6,J8,J9,Xb,Xc,Xf,Xn,Xo,Xv,X3,X4,X6,X7,X8,X9,Wc,Wf,Wh,Wi,Wj,Wt,Wu,Wv,Ww,Wx,Wy,Wz,W0,W6,W7,W8,W9,Ya,Yb,Ye,Yf,Yi,Yj,Ym,Yt,Yw,Yy,Y0,Y1,Y7,Y8,Vb,Vc,Vd,Ve,Vf,Vg,Vj,Vo,Vp,Vs,Vt,Vu,V4,V5,Ul,Um,Un,Uo,Up,U8,Ku,U4,Kr,U3]
     tactic =>
      try simp only [U1] at *
      try simp only [nc2] at *
      try simp (maxSteps := 4000000) only [hxb,hyb,hal,tx,ty,hv,ka,kb,ea,eb,ra,rb,Hh.eq_def,Uu,Us,Uv,Ur,szN,Ut,U9]
      repeat' (first | with_reducible assumption | with_reducible refine And.intro ?_ ?_ | intro _ | omega | (rw [U0]; omega))
      refine Km [4, 36, 37, 38, 39, 40, 41, 42, 43, 44, 45, 46, 47, 48, 49, 50, 51] (fun k : Nat => [(9, .d (.int .i64 k))]) (fun k : Nat => []) (fun k : Nat => k ≤ x.kids.length ∧ ∀ j, j < k → agX false (x.kids.getD j (mk n0 [])) (y.kids.getD j (mk n0 [])) = true) (fun k : Nat => x.kids.length - k) 0 ?_ ?_ ?_
      · simp
      · ((try simp only [U2, Ka, U6, Kg, upd, Kh, Ko, Gd, Nat.reduceDiv, Nat.reduceMod, Nat.reduceMul, Nat.reduceAdd, Nat.reduceEqDiff, List.set_cons_zero, List.set_cons_succ, if_true, if_false, reduceIte]); (first | refine Wk.of_fl ?_ | skip); simp only [Wk, wkK, Gl, wkT, wk1, AV.kept, keptAll, wkO, lk, U5, and_true, true_and, and_self, Nat.reduceEqDiff, Nat.reduceLeDiff, if_true, if_false, reduceIte, reduceCtorEq, Option.isSome, false_implies]; try simp [Wk, wkK, wkT, wk1, AV.kept, keptAll, wkO, lk, U5])
      rintro k ⟨hkk, hno⟩
      rcases Ks k x.kids.length with ⟨hlt, hltb⟩ | ⟨hlt, hltb⟩
      · obtain ⟨u1, u2, u3, u4⟩ := hsa hlt
        obtain ⟨w1, w2, w3, w4⟩ := hsb (show k < y.kids.length by omega)
        have q1 := Kf (⟨[]⟩ : Sl Node) (show k < (Na x.kids).length by omega)
        have q2 := Kf (⟨[]⟩ : Sl Node) (show k < (Na y.kids).length by rw [T3]; omega)
        rw [parts_at hlt] at q1
        rw [parts_at (show k < y.kids.length by omega)] at q2
        have hag := agX_clr (f := false) (x := x.kids.getD k (mk n0 [])) (y := y.kids.getD k (mk n0 []))
        have pl2 : (Na y.kids).length = y.kids.length := T3
        cases hr : agX false (x.kids.getD k (mk n0 [])) (y.kids.getD k (mk n0 [])) with
        | false =>
          have hv1 : v = false := by
            rw [← Bool.not_eq_true]
            intro e
            have := (hiff.1 e).2 k hlt
            rw [hr] at this
            cases this
          rw [hr] at hag
          (sym =>
           simp [hltb,pl,pl2,q1,q2,u4,w4,hag,hv1,tx,ty,hv,ka,kb,ea,eb,ra,rb,Hh.eq_def,Uu,Us,Uv,Ur,szN,Ut,Sm,R9,Cj,Aa,ctx_Agree7_w,N7.eq_def,Bc.eq_def,Mw.eq_def,Zb,Zc,Ze,Zf,Zg,Zh,Zi,Zj,Zk,Zl,Zm,Zo,Zp,Zq,Zv,Zy,Z6,Z9,Qb,Qc,Qd,Qe,Qf,Qn,Qo,Qp,Qq,Qr,Qs,Q1,Q2,Q4,Q5,Q6,Q8,Jf,Jj,Jk,Jl,Jy,Jz,J0,J5,J6,J7,J8,J9,Xa,Xb,Xc,Xf,Xv,X3,X4,X5,X6,X7,X8,Wb,Wc,Wd,We,Wf,Wg,Wh,Wi,Wj,Wp,Wq,Wr,Ws,Wt,Wu,Wv,Ww,Wx,Wz,W0,W4,W5,Ya,Yb,Yd,Ye,Yf,Yi,Yj,Ym,Yy,Y0,Y1,Y3,Y6,Y7,Y8,Y9,Va,Vc,Vj,Vo,Vq,Vr,Vt,Vu,V5,Uk,Ul,Um,Un,Uo,Up,Uq,U8,Ku,U4,Kr,U3]
           tactic =>
            try simp only [U1] at *
            try simp only [nc2] at *
            try simp (maxSteps := 4000000) only [hltb,pl,pl2,q1,q2,u4,w4,hag,hv1,tx,ty,hv,ka,kb,ea,eb,ra,rb,Hh.eq_def,Uu,Us,Uv,Ur,szN,Ut,U9]
            repeat' (first | with_reducible assumption | with_reducible refine And.intro ?_ ?_ | intro _ | omega | (rw [U0]; omega))
            all_goals first
              | assumption
              | (with_reducible refine Kl ?_; kernel_rfl)
              | omega)
        | true =>
          rw [hr] at hag
          (sym =>
           simp [hltb,pl,pl2,q1,q2,u4,w4,hag,tx,ty,hv,ka,kb,ea,eb,ra,rb,Hh.eq_def,Uu,Us,Uv,Ur,szN,Ut,Sm,R9,Aa,ctx_Agree7_w,N7.eq_def,Bc.eq_def,Mw.eq_def,Zb,Zc,Ze,Zf,Zg,Zh,Zi,Zj,Zk,Zl,Zm,Zo,Zp,Zq,Zv,Zy,Z6,Z9,Qb,Qc,Qd,Qe,Qf,Qq,Qr,Qs,Q1,Q2,Q4,Q5,Q6,Q8,Jf,Jj,Jl,Jy,Jz,J0,J5,J6,J7,J8,J9,Xa,Xb,Xc,Xf,Xv,X3,X4,X5,X6,X7,X8,Wc,Wd,We,Wf,Wg,Wh,Wi,Wj,Wp,Wq,Wr,Ws,Wt,Wu,Wv,Ww,Wx,Wz,W0,W4,W5,Ya,Yb,Yd,Ye,Yf,Yi,Yj,Ym,Yy,Y0,Y1,Y3,Y6,Y7,Y8,Y9,Va,Vc,Vj,Vo,Vp,Vr,Vt,Vu,V4,Uk,Ul,Um,Un,Uo,Up,Uq,U8,Ku,U4,Kr,U3]
           tactic =>
            try simp only [U1] at *
            try simp only [nc2] at *
            try simp (maxSteps := 4000000) only [hltb,pl,pl2,q1,q2,u4,w4,hag,tx,ty,hv,ka,kb,ea,eb,ra,rb,Hh.eq_def,Uu,Us,Uv,Ur,szN,Ut,U9]
            repeat' (first | with_reducible assumption | with_reducible refine And.intro ?_ ?_ | intro _ | omega | (rw [U0]; omega))
            all_goals first
              | assumption
              | (with_reducible refine Kl ?_; kernel_rfl)
              | omega
              | (refine ⟨k + 1, by ((try simp only [U2, Ka, U6, Kg, upd, Kh, Ko, Gd, Nat.reduceDiv, Nat.reduceMod, Nat.reduceMul, Nat.reduceAdd, Nat.reduceEqDiff, List.set_cons_zero, List.set_cons_succ, if_true, if_false, reduceIte]); (first | refine Wk.of_fl ?_ | skip); simp only [Wk, wkK, Gl, wkT, wk1, AV.kept, keptAll, wkO, lk, U5, and_true, true_and, and_self, Nat.reduceEqDiff, Nat.reduceLeDiff, if_true, if_false, reduceIte, reduceCtorEq, Option.isSome, false_implies]; try simp [Wk, wkK, wkT, wk1, AV.kept, keptAll, wkO, lk, U5]), by omega, fun j hj => ?_, by omega⟩
                 by_cases hjk : j = k
                 · subst hjk; exact hr
                 · exact hno j (by omega)))
      · have hv1 : v = true := hiff.2 ⟨hal, fun j hj => hno j (by omega)⟩
        (sym =>
         simp [hltb,pl,hv1,tx,ty,hv,ka,kb,ea,eb,ra,rb,Hh.eq_def,Uu,Us,Uv,Ur,szN,Ut,Sm,Cj,Zb,Zc,Ze,Zf,Zg,Zo,Z6,Qb,Qd,Qn,Qo,Qp,Qq,Qs,Q1,Q2,Q4,Q8,Jk,Jy,Jz,J0,J5,J6,J8,J9,Xa,Xb,Xc,Xf,X4,X6,X7,Wa,Wb,Wc,Wf,Wh,Wi,Wj,Wt,Wu,Wv,Ww,Ya,Yb,Yd,Ye,Yi,Y0,Y1,Y6,Y7,Y8,Y9,Va,Vt,Vu,V5,Ul,Um,Un,Uo,Up,U8,Ku,U4,Kr,U3]))
end Go.Am.Ty
set_option linter.unusedSimpArgs false
set_option linter.unusedVariables false
set_option maxHeartbeats 1000000
namespace Go.Am.Ty
open Go.Proofs Go.Rose Go.Rose.Rose
open Enc (enc dec)
structure Fn0 (f : Nat) where
instance encFn0 (f : Nat) : Enc (Fn0 f) := ⟨fun _ => .clo f [], fun _ => ⟨⟩, fun _ => rfl⟩
theorem C0 {f : Nat} {a : Fn0 f} : (enc a : D) = .clo f [] := rfl
theorem isE_Fn0 {f : Nat} : isE (Fn0 f) (.clo f []) = True := eq_true rfl
def same1 (x y : Node) : Bool := Hx x == Hx y
def Dw : Con := Bg (fun (_ _ : Node) => True) same1
noncomputable def ctx_SameN : Ctx := ⟨tab, lkC [], 60, lkB [], [], false⟩
theorem ctx_SameN_t : ctx_SameN.τ = tab := rfl
theorem ctx_SameN_d : ctx_SameN.dp = 60 := rfl
theorem good_SameN : Gj Tryz.prog (55, Dw) := by
  refine ⟨U7 Tryz.func55 (by kernel_rfl) rfl, ?_⟩
  have K : Ky Tryz.prog ctx_SameN := Kd K6 Ki (by simp) (by simp)
  obtain ⟨c, hc⟩ : ∃ c, Tryz.f55.body = some c := ⟨_, rfl⟩
  refine Ke K Tryz.func55 hc [.tmp 4] rfl 21 rfl (fun cvs hpre => ?_)
  change Dw.pre cvs at hpre
  unfold Dw at hpre
  obtain ⟨x, y, rfl, -⟩ := Gi hpre
  simp only [Tryz.f55, Option.some.injEq] at hc
  subst hc
  (sym =>
   simp [Uu,Us,Uv,Ur,szN,Ut,ctx_SameN_t,ctx_SameN_d,Dw.eq_def,Za,Zb,Zc,Zd,Ze,Zf,Zo,Zp,Zq,Zs,Zt,Zu,Zv,Zx,Qb,Qd,Qh,Ql,Qm,Qn,Qo,Qp,Qq,Qs,Qy,Qz,Q0,Q1,Q2,Q4,Q8,Ja,Jh,Ji,Jk,Jr,Jw,J3,J4,Xf,Xs,Xv,Xz,X0,X1,X2,X3,X4,X6,X7,Wb,Wc,Wf,Wh,Wi,Wj,Wo,Wt,Wu,Wv,Ww,Wy,W0,W4,W5,W6,W7,W8,W9,Ye,Yg,Yi,Yk,Yq,Yy,Y7,Y8,Y9,Va,Vb,Vc,Vd,Ve,Vg,V4,V5,V9,Uk,Ul,Um,Un,U8,Kq,U3]
   tactic =>
    try simp only [U1] at *
    try simp only [nc2] at *
    try simp (maxSteps := 4000000) only [Uu,Us,Uv,Ur,szN,Ut,U9]
    repeat' (first | with_reducible assumption | with_reducible refine And.intro ?_ ?_ | intro _ | omega | (rw [U0]; omega))
    all_goals
      unfold same1
      rw [Bool.eq_iff_iff]
      simp only [beq_iff_eq]
      unfold Hx
      obtain ⟨xk, xn, xm⟩ := x
      obtain ⟨yk, yn, ym⟩ := y
      simp only at *
      repeat' split
      all_goals
        first
          | (simp only [Node.mk.injEq]; done)
          | (simp only [Node.mk.injEq]; constructor <;> (intro h; simp_all)))
def B1 : Con := con3 (fun (a b : Sl Node) (_ : Fn0 55) => a.l.length ≤ 9223372036854775807 ∧ b.l.length ≤ 9223372036854775807) (fun a b _ => Gp a.l b.l)
noncomputable def Lx : Ctx := ⟨tab, lkC [(55, Dw)], 60, lkB [], [], false⟩
theorem T9 : Lx.τ = tab := rfl
theorem ctx_equalNodes_c : Lx.Γ = lkC [(55, Dw)] := rfl
theorem Ca : Lx.dp = 60 := rfl
theorem ctx_equalNodes_b : Lx.Δ = lkB [] := rfl
theorem ctx_equalNodes_w : Lx.wr = false := rfl
set_option maxRecDepth 100000 in
theorem good_equalNodes : Gj Tryz.prog (54, B1) := by
  refine ⟨U7 Tryz.func54 (by kernel_rfl) rfl, ?_⟩
  have K : Ky Tryz.prog Lx := Kd K6 Ki (by
    intro p hp
    simp only [List.mem_cons, List.not_mem_nil, or_false] at hp
    rcases hp with rfl
    · exact good_SameN) (by simp)
  obtain ⟨c, hc⟩ : ∃ c, Tryz.f54.body = some c := ⟨_, rfl⟩
  refine Ke K Tryz.func54 hc [.tmp 6] rfl 32 rfl (fun cvs hpre => ?_)
  change B1.pre cvs at hpre
  unfold B1 at hpre
  obtain ⟨⟨a⟩, ⟨b⟩, f, rfl, ha, hb⟩ := con3_pre hpre
  simp only at ha hb
  simp only [Tryz.f54, Option.some.injEq] at hc
  subst hc
  refine Kw 2 (of_decide_eq_true (by kernel_rfl)) ?_
  (sym =>
   simp [C0,Uu,Us,Uv,Ur,szN,Ut,T9,Ca,B1.eq_def,Zb,Zc,Ze,Zf,Zo,Z6,Qb,Qd,Qn,Qo,Qp,Qq,Qs,Q1,Q2,Q4,Q8,Jk,Jw,J3,J4,J5,J6,J8,Xb,Xc,Xf,Xn,Xo,Xw,X3,X4,X6,X7,X8,X9,Wb,Wc,Wf,Wh,Wi,Wj,Wt,Wu,Wv,Ww,Wy,W0,W6,W7,Ya,Yb,Ye,Yi,Yy,Y0,Y1,Y7,Y8,Vb,Vc,Vd,Ve,Vf,Vg,Vj,Vt,Vu,V4,V5,Um,Un,Up,U8,Ku,U4,U3,tab71]
   tactic =>
    try simp only [U1] at *
    try simp only [nc2] at *
    try simp (maxSteps := 4000000) only [C0,Uu,Us,Uv,Ur,szN,Ut,U9]
    refine ⟨fun hne => ?_, fun heq => ?_⟩
    · symm
      unfold Gp
      rw [beq_eq_false_iff_ne]
      intro h
      have := congrArg List.length h
      rw [List.length_map, List.length_map] at this
      exact hne (by rw [this])
    have hlen : a.length = b.length := by omega
    refine Km [6, 7, 8, 9, 18, 19, 20, 21, 22, 23, 24, 25, 26, 27, 28, 29, 30, 31] (fun k : Nat => [(17, .d (.int .i64 k))]) (fun k : Nat => []) (fun k : Nat => k ≤ a.length ∧ ∀ j, j < k → Hx (a.getD j ⟨0, [], 0⟩) = Hx (b.getD j ⟨0, [], 0⟩)) (fun k : Nat => a.length - k) 0 ?_ ?_ ?_
    · simp
    · ((try simp only [U2, Ka, U6, Kg, upd, Kh, Ko, Gd, Nat.reduceDiv, Nat.reduceMod, Nat.reduceMul, Nat.reduceAdd, Nat.reduceEqDiff, List.set_cons_zero, List.set_cons_succ, if_true, if_false, reduceIte]); (first | refine Wk.of_fl ?_ | skip); simp only [Wk, wkK, Gl, wkT, wk1, AV.kept, keptAll, wkO, lk, U5, and_true, true_and, and_self, Nat.reduceEqDiff, Nat.reduceLeDiff, if_true, if_false, reduceIte, reduceCtorEq, Option.isSome, false_implies]; try simp [Wk, wkK, wkT, wk1, AV.kept, keptAll, wkO, lk, U5])
    rintro k ⟨hk, hno⟩
    rcases Ks k a.length with ⟨hlt, hlb⟩ | ⟨hlt, hlb⟩
    · have q1 := Kf (⟨0, [], 0⟩ : Node) hlt
      have q2 := Kf (⟨0, [], 0⟩ : Node) (show k < b.length by omega)
      cases hs : same1 (a.getD k ⟨0, [], 0⟩) (b.getD k ⟨0, [], 0⟩) with
      | false =>
        have hbad : false = Gp a b := by
          symm
          unfold Gp
          rw [beq_eq_false_iff_ne]
          intro e
          unfold same1 at hs
          rw [beq_eq_false_iff_ne] at hs
          apply hs
          have h1 : (a.map Hx).getD k ⟨0, [], 0⟩ = (b.map Hx).getD k ⟨0, [], 0⟩ := by rw [e]
          simpa [hlt, show k < b.length by omega] using h1
        (sym =>
         simp [hlb,q1,q2,hs,C0,Uu,Us,Uv,Ur,szN,Ut,T9,ctx_equalNodes_c,Ca,ctx_equalNodes_b,Dw.eq_def,Zb,Zc,Ze,Zf,Zg,Zo,Zp,Zq,Zu,Zv,Zw,Zy,Z9,Qa,Qb,Qc,Qd,Qe,Qf,Qh,Qk,Ql,Qn,Qo,Qp,Qq,Qs,Q1,Q2,Q4,Q8,Ja,Jf,Jh,Ji,Jj,Jk,Jl,Jy,Jz,J0,J5,J6,J8,J9,Xb,Xc,Xf,Xp,Xs,Xv,X3,X4,X6,X7,X8,Wb,Wc,Wf,Wh,Wi,Wj,Wm,Wt,Wu,Wv,Ww,Wx,Wz,W0,W4,W5,W6,W7,Ya,Yb,Yd,Ye,Yf,Yi,Yj,Ym,Yq,Yy,Y0,Y1,Y7,Y8,Vc,Vd,Ve,Vf,Vg,Vq,Vr,Vt,Vu,V5,Uk,Um,Un,Uo,Up,Uq,U8,Ku,U4,U3,tab71]
         tactic =>
          try simp only [U1] at *
          try simp only [nc2] at *
          try simp (maxSteps := 4000000) only [hlb,q1,q2,hs,C0,Uu,Us,Uv,Ur,szN,Ut,U9]
          repeat' (first | with_reducible assumption | with_reducible refine And.intro ?_ ?_ | intro _ | omega | (rw [U0]; omega))
          all_goals first
            | exact hbad
            | (with_reducible refine Kl ?_; kernel_rfl))
      | true =>
        have hyes : ∀ j, j < k + 1 → Hx (a.getD j ⟨0, [], 0⟩) = Hx (b.getD j ⟨0, [], 0⟩) := by
          intro j hj
          unfold same1 at hs
          rw [beq_iff_eq] at hs
          by_cases hjk : j = k
          · subst hjk; exact hs
          · exact hno j (by omega)
        (sym =>
         simp [hlb,q1,q2,hs,C0,Uu,Us,Uv,Ur,szN,Ut,T9,ctx_equalNodes_c,Ca,ctx_equalNodes_b,ctx_equalNodes_w,Dw.eq_def,Zb,Zc,Ze,Zf,Zg,Zo,Zp,Zq,Zu,Zv,Zw,Zy,Z9,Qa,Qb,Qc,Qd,Qe,Qf,Qh,Qk,Ql,Qq,Qs,Q1,Q2,Q4,Q8,Ja,Jf,Jh,Ji,Jj,Jl,Jy,Jz,J0,J5,J6,J8,J9,Xb,Xc,Xf,Xp,Xs,Xv,X3,X4,X6,X7,X8,Wc,Wf,Wh,Wi,Wj,Wm,Wt,Wu,Wv,Ww,Wx,Wz,W0,W4,W5,W6,W7,Ya,Yb,Yd,Ye,Yf,Yi,Yj,Ym,Yq,Yy,Y0,Y1,Y7,Y8,Vc,Vd,Ve,Vf,Vg,Vp,Vr,Vt,Vu,V4,Uk,Ul,Um,Un,Uo,Up,Uq,U8,Ku,U4,U3,tab71]
         tactic =>
          try simp only [U1] at *
          try simp only [nc2] at *
          try simp (maxSteps := 4000000) only [hlb,q1,q2,hs,C0,Uu,Us,Uv,Ur,szN,Ut,U9]
          repeat' (first | with_reducible assumption | with_reducible refine And.intro ?_ ?_ | intro _ | omega | (rw [U0]; omega))
          all_goals first
            | (with_reducible refine Kl ?_; kernel_rfl)
            | exact ⟨k + 1, by ((try simp only [U2, Ka, U6, Kg, upd, Kh, Ko, Gd, Nat.reduceDiv, Nat.reduceMod, Nat.reduceMul, Nat.reduceAdd, Nat.reduceEqDiff, List.set_cons_zero, List.set_cons_succ, if_true, if_false, reduceIte]); (first | refine Wk.of_fl ?_ | skip); simp only [Wk, wkK, Gl, wkT, wk1, AV.kept, keptAll, wkO, lk, U5, and_true, true_and, and_self, Nat.reduceEqDiff, Nat.reduceLeDiff, if_true, if_false, reduceIte, reduceCtorEq, Option.isSome, false_implies]; try simp [Wk, wkK, wkT, wk1, AV.kept, keptAll, wkO, lk, U5]), by omega, hyes, by omega⟩)
    · (sym =>
       simp [hlb,Uu,Us,Uv,Ur,szN,Ut,T9,Ca,Zb,Zc,Ze,Zf,Zg,Qb,Qd,Qn,Qo,Qp,Qq,Qs,Q1,Q2,Q4,Q8,Jk,Jy,Jz,J0,J5,J6,J8,J9,Xb,Xc,Xf,X4,X6,X7,Wa,Wb,Wc,Wf,Wh,Wi,Wt,Wu,Wv,Ww,Ya,Yb,Yd,Ye,Yi,Y7,Y8,Vt,V5,Ul,Um,Un,Uo,U8,Ku,U4,U3,tab71]
       tactic =>
        try simp only [U1] at *
        try simp only [nc2] at *
        try simp (maxSteps := 4000000) only [hlb,Uu,Us,Uv,Ur,szN,Ut,U9]
        symm
        unfold Gp
        rw [beq_iff_eq]
        refine List.ext_getElem (by simp [hlen]) fun j h1 h2 => ?_
        rw [List.length_map] at h1 h2
        have := hno j (by omega)
        simpa [h1, h2] using this))
def Kz : Con := Bg (fun (a b : Sl Node) => a.l.length ≤ 9223372036854775807 ∧ b.l.length ≤ 9223372036854775807) (fun a b => Gp a.l b.l)
noncomputable def ctx_SameT : Ctx := ⟨tab, lkC [(54, B1)], 60, lkB [], [], false⟩
theorem ctx_SameT_c : ctx_SameT.Γ = lkC [(54, B1)] := rfl
theorem ctx_SameT_d : ctx_SameT.dp = 60 := rfl
theorem ctx_SameT_b : ctx_SameT.Δ = lkB [] := rfl
theorem Ip : Gj Tryz.prog (25, Kz) := by
  refine ⟨U7 Tryz.func25 (by kernel_rfl) rfl, ?_⟩
  have K : Ky Tryz.prog ctx_SameT := Kd K6 Ki (by
    intro p hp
    simp only [List.mem_cons, List.not_mem_nil, or_false] at hp
    rcases hp with rfl
    · exact good_equalNodes) (by simp)
  obtain ⟨c, hc⟩ : ∃ c, Tryz.f25.body = some c := ⟨_, rfl⟩
  refine Ke K Tryz.func25 hc [.tmp 4] rfl 8 rfl (fun cvs hpre => ?_)
  change Kz.pre cvs at hpre
  unfold Kz at hpre
  obtain ⟨⟨a⟩, ⟨b⟩, rfl, ha, hb⟩ := Gi hpre
  simp only at ha hb
  simp only [Tryz.f25, Option.some.injEq] at hc
  subst hc
  (sym =>
   simp [isE_Fn0,Uu,Us,Uv,Ur,szN,Ut,ctx_SameT_c,ctx_SameT_d,ctx_SameT_b,Kz.eq_def,B1.eq_def,Za,Zb,Zc,Ze,Zf,Z9,Qe,Qf,Qn,Qo,Qp,Qq,Qs,Q1,Q2,Q4,Q8,Jf,Jj,Jk,Jl,Jw,J3,J4,Xf,Xv,Xw,X4,X6,Wb,Wc,Wf,Wh,Wt,Wu,Wv,Ww,Wx,Wy,Wz,W0,W6,W7,Yy,Y7,Y8,Y9,Va,Vb,Vc,Vj,Vo,Vu,V5,Um,Un,U4,U3]
   tactic =>
    try simp only [U1] at *
    try simp only [nc2] at *
    try simp (maxSteps := 4000000) only [isE_Fn0,Uu,Us,Uv,Ur,szN,Ut,U9]
    repeat' (first | with_reducible assumption | with_reducible refine And.intro ?_ ?_ | intro _ | omega | (rw [U0]; omega)))
end Go.Am.Ty
set_option linter.unusedSimpArgs false
set_option linter.unusedVariables false
set_option maxHeartbeats 1000000
namespace Go.Am.Ty
open Go.Proofs Go.Rose Go.Rose.Rose
open Enc (enc dec)
def idxP {α : Type} (p : α → Bool) (l : List α) : Int := match l.findIdx? p with
  | some i => (i : Int)
  | none => -1
theorem idxP_at {α : Type} {p : α → Bool} {l : List α} {k : Nat} (d : α) (hk : k < l.length) (hno : ∀ j, j < k → p (l.getD j d) = false) (hp : p (l.getD k d) = true) : idxP p l = k := by
  have h : l.findIdx? p = some k := by
    rw [List.findIdx?_eq_some_iff_getElem]
    refine ⟨hk, by simpa [hk] using hp, fun j hj => ?_⟩
    have := hno j hj
    simpa [show j < l.length by omega] using this
  unfold idxP
  rw [h]
theorem idxP_none {α : Type} {p : α → Bool} {l : List α} (d : α) (hno : ∀ j, j < l.length → p (l.getD j d) = false) : idxP p l = -1 := by
  have h : l.findIdx? p = none := by
    rw [List.findIdx?_eq_none_iff]
    intro x hx
    obtain ⟨j, hj, rfl⟩ := List.getElem_of_mem hx
    have := hno j hj
    simpa [hj] using this
  unfold idxP
  rw [h]
theorem idxP_any {α : Type} {p : α → Bool} {l : List α} : leB 0 (idxP p l) = l.any p := by
  unfold idxP
  cases h : l.findIdx? p with
  | none =>
    rw [List.findIdx?_eq_none_iff] at h
    have : l.any p = false := by rw [List.any_eq_false]; intro x hx; rw [h x hx]; simp
    rw [this]
    rfl
  | some i =>
    rw [List.findIdx?_eq_some_iff_getElem] at h
    obtain ⟨hi, hp, _⟩ := h
    have : l.any p = true := by rw [List.any_eq_true]; exact ⟨_, List.getElem_mem hi, hp⟩
    rw [this]
    simp [leB]
def isI (v : Int) (x : Int) : Bool := v == x
def Sq : Con := Bg (fun (l : Sl Int) (_ : Int) => l.l.length ≤ 9223372036854775807) (fun l v => idxP (isI v) l.l)
noncomputable def Rx : Ctx := ⟨tab, lkC [], 60, lkB [], [], false⟩
theorem D9 : Rx.τ = tab := rfl
theorem ctx_indexInt_d : Rx.dp = 60 := rfl
theorem ctx_indexInt_w : Rx.wr = false := rfl
theorem good_indexInt : Gj Tryz.prog (109, Sq) := by
  refine ⟨U7 Tryz.func109 (by kernel_rfl) rfl, ?_⟩
  have K : Ky Tryz.prog Rx := Kd K6 Ki (by simp) (by simp)
  obtain ⟨c, hc⟩ : ∃ c, Tryz.f109.body = some c := ⟨_, rfl⟩
  refine Ke K Tryz.func109 hc [.tmp 4] rfl 19 rfl (fun cvs hpre => ?_)
  change Sq.pre cvs at hpre
  unfold Sq at hpre
  obtain ⟨⟨l⟩, v, rfl, hl⟩ := Gi hpre
  simp only at hl
  simp only [Tryz.f109, Option.some.injEq] at hc
  subst hc
  (sym =>
   simp [Uu,Us,Uv,Ur,szN,Ut,D9,Sq.eq_def,Za,Zb,Zc,Ze,Zf,Zo,Z6,Qq,Qs,Q1,Q2,Q4,Jw,J3,J4,Xv,X4,X6,X8,X9,Wc,Wf,Wh,Wi,Wj,Wt,Wu,Wv,Ww,Wy,W0,W6,W7,Yx,Y0,Y1,Y4,Y7,Y8,Y9,Va,Vb,Vc,Vh,Vj,Vu,V4,Um,Up,U8,H9]
   tactic =>
    try simp only [U1] at *
    try simp only [nc2] at *
    try simp (maxSteps := 4000000) only [Uu,Us,Uv,Ur,szN,Ut,U9]
    refine Km [4, 5, 9, 10, 11, 12, 13, 14, 15, 16, 17, 18] (fun k : Nat => [(8, .d (.int .i64 k))]) (fun k : Nat => []) (fun k : Nat => k ≤ l.length ∧ ∀ j, j < k → isI v (l.getD j 0) = false) (fun k : Nat => l.length - k) 0 ?_ ?_ ?_
    · simp
    · ((try simp only [U2, Ka, U6, Kg, upd, Kh, Ko, Gd, Nat.reduceDiv, Nat.reduceMod, Nat.reduceMul, Nat.reduceAdd, Nat.reduceEqDiff, List.set_cons_zero, List.set_cons_succ, if_true, if_false, reduceIte]); (first | refine Wk.of_fl ?_ | skip); simp only [Wk, wkK, Gl, wkT, wk1, AV.kept, keptAll, wkO, lk, U5, and_true, true_and, and_self, Nat.reduceEqDiff, Nat.reduceLeDiff, if_true, if_false, reduceIte, reduceCtorEq, Option.isSome, false_implies]; try simp [Wk, wkK, wkT, wk1, AV.kept, keptAll, wkO, lk, U5])
    rintro k ⟨hk, hno⟩
    rcases Ks k l.length with ⟨hlt, hlb⟩ | ⟨hlt, hlb⟩
    · have q1 := Kf (0 : Int) hlt
      cases hs : isI v (l.getD k 0) with
      | false =>
        have hs' : (v == l.getD k 0) = false := hs
        (sym =>
         simp [hlb,q1,hs',Uu,Us,Uv,Ur,szN,Ut,D9,ctx_indexInt_w,Zb,Zc,Ze,Zf,Zg,Zo,Zp,Zq,Zv,Zy,Qb,Qd,Qq,Qs,Q1,Q2,Q4,Jy,Jz,J0,X3,X4,X6,X7,X8,Wc,Wf,Wh,Wi,Wj,Wt,Wu,Yd,Ye,Yi,Ym,Yt,Yx,Y0,Y1,Y4,Y7,Y8,Y9,Va,Vr,Vt,Vu,V4,Uk,Ul,Um,Un,Uo,Up,U8,H9]
         tactic =>
          try simp only [U1] at *
          try simp only [nc2] at *
          try simp (maxSteps := 4000000) only [hlb,q1,hs',Uu,Us,Uv,Ur,szN,Ut,U9]
          repeat' (first | with_reducible assumption | with_reducible refine And.intro ?_ ?_ | intro _ | omega | (rw [U0]; omega))
          refine ⟨k + 1, by ((try simp only [U2, Ka, U6, Kg, upd, Kh, Ko, Gd, Nat.reduceDiv, Nat.reduceMod, Nat.reduceMul, Nat.reduceAdd, Nat.reduceEqDiff, List.set_cons_zero, List.set_cons_succ, if_true, if_false, reduceIte]); (first | refine Wk.of_fl ?_ | skip); simp only [Wk, wkK, Gl, wkT, wk1, AV.kept, keptAll, wkO, lk, U5, and_true, true_and, and_self, Nat.reduceEqDiff, Nat.reduceLeDiff, if_true, if_false, reduceIte, reduceCtorEq, Option.isSome, false_implies]; try simp [Wk, wkK, wkT, wk1, AV.kept, keptAll, wkO, lk, U5]), by omega, fun j hj => ?_, by omega⟩
          by_cases hjk : j = k
          · subst hjk; exact hs
          · exact hno j (by omega))
      | true =>
        have hs' : (v == l.getD k 0) = true := hs
        have hr := idxP_at 0 hlt hno hs
        (sym =>
         simp [hlb,q1,hs',hr,Uu,Us,Uv,Ur,szN,Ut,D9,ctx_indexInt_d,Zb,Zc,Ze,Zf,Zg,Zo,Zp,Zq,Zv,Zy,Qb,Qd,Qn,Qo,Qp,Qq,Qs,Q1,Q2,Q4,Q8,Jk,Jy,Jz,J0,Xf,X3,X4,X6,X7,X8,Wb,Wc,Wf,Wh,Wi,Wj,Wt,Wu,Yd,Ye,Yi,Ym,Yt,Yx,Y0,Y1,Y4,Y7,Y8,Y9,Va,Vr,Vt,Vu,Uk,Um,Un,Uo,Up,U8,H9]
         tactic =>
          try simp only [U1] at *
          try simp only [nc2] at *
          try simp (maxSteps := 4000000) only [hlb,q1,hs',hr,Uu,Us,Uv,Ur,szN,Ut,U9]
          repeat' (first | with_reducible assumption | with_reducible refine And.intro ?_ ?_ | intro _ | omega | (rw [U0]; omega)))
    · have hr := idxP_none (p := isI v) (l := l) 0 (fun j hj => hno j (by omega))
      (sym =>
       simp [hlb,hr,Uu,Us,Uv,Ur,szN,Ut,D9,ctx_indexInt_d,Zb,Zc,Ze,Zf,Zg,Qb,Qd,Qn,Qo,Qp,Qq,Qs,Q1,Q2,Q4,Q8,Jk,Jy,Jz,J0,Xf,X4,X6,X7,Wa,Wb,Wc,Wf,Wh,Wi,Wt,Wu,Yd,Ye,Yi,Y7,Y8,Y9,Va,Vt,V4,Ul,Um,Un,Uo,U8,H9]))
def Bb : Con := Bg (fun (l : Sl Int) (_ : Int) => l.l.length ≤ 9223372036854775807) (fun l v => l.l.any (isI v))
noncomputable def Sv : Ctx := ⟨tab, lkC [(109, Sq)], 60, lkB [], [], false⟩
theorem ctx_containsInt_t : Sv.τ = tab := rfl
theorem ctx_containsInt_c : Sv.Γ = lkC [(109, Sq)] := rfl
theorem ctx_containsInt_d : Sv.dp = 60 := rfl
theorem ctx_containsInt_b : Sv.Δ = lkB [] := rfl
theorem good_containsInt : Gj Tryz.prog (107, Bb) := by
  refine ⟨U7 Tryz.func107 (by kernel_rfl) rfl, ?_⟩
  have K : Ky Tryz.prog Sv := Kd K6 Ki (by
    intro p hp
    simp only [List.mem_cons, List.not_mem_nil, or_false] at hp
    rcases hp with rfl
    · exact good_indexInt) (by simp)
  obtain ⟨c, hc⟩ : ∃ c, Tryz.f107.body = some c := ⟨_, rfl⟩
  refine Ke K Tryz.func107 hc [.tmp 4] rfl 9 rfl (fun cvs hpre => ?_)
  change Bb.pre cvs at hpre
  unfold Bb at hpre
  obtain ⟨⟨l⟩, v, rfl, hl⟩ := Gi hpre
  simp only at hl
  have h := idxP_any (p := isI v) (l := l)
  simp only [Tryz.f107, Option.some.injEq] at hc
  subst hc
  (sym =>
   simp [h,Uu,Us,Uv,Ur,szN,Ut,ctx_containsInt_t,ctx_containsInt_c,ctx_containsInt_d,ctx_containsInt_b,Bb.eq_def,Sq.eq_def,Za,Zb,Zc,Ze,Zf,Z9,Qb,Qd,Qe,Qf,Qn,Qo,Qp,Qq,Qs,Q1,Q2,Q4,Q8,Jf,Jj,Jk,Jl,Jw,J3,J4,Xf,Xv,X4,X6,Wb,Wc,Wf,Wh,Wi,Wt,Wu,Wv,Ww,Wx,Wy,Wz,W0,W6,W7,Ye,Yi,Yx,Yy,Y7,Y8,Y9,Va,Vb,Vc,Vh,Vj,Vm,Vo,Vu,V4,V5,Um,Un,U8,H9]
   tactic =>
    try simp only [U1] at *
    try simp only [nc2] at *
    try simp (maxSteps := 4000000) only [h,Uu,Us,Uv,Ur,szN,Ut,U9]
    repeat' (first | with_reducible assumption | with_reducible refine And.intro ?_ ?_ | intro _ | omega | (rw [U0]; omega)))
structure PI where
  l : List Int
instance encPI : Enc PI := ⟨fun p => .ptr 1 (.list 1 (p.l.map enc)), fun x => match x with
  | .ptr _ y => ⟨y.l.map dec⟩
  | _ => ⟨[]⟩, fun p => by
    have h : ∀ l : List Int, (l.map (enc : Int → D)).map dec = l := fun l => Bs
    obtain ⟨l⟩ := p
    simp [D.l,h]⟩
theorem enc_PI {l : List Int} : (enc (PI.mk l) : D) = .ptr 1 (.list 1 (l.map enc)) := rfl
theorem PI_l {l : List Int} : (PI.mk l).l = l := rfl
theorem dec_PI {l : List Int} : (dec (.ptr 1 (.list 1 (l.map enc))) : PI) = ⟨l⟩ := Enc.dec_enc (PI.mk l)
theorem isE_PI {l : List Int} : isE PI (.ptr 1 (.list 1 (l.map enc))) = True := eq_true (Lf (PI.mk l))
structure NoneF where
  l : List Int
instance encNoneF : Enc NoneF := ⟨fun p => .clo 106 [.ptr 1 (.list 1 (p.l.map enc))], fun x => match x with
  | .clo _ [.ptr _ y] => ⟨y.l.map dec⟩
  | _ => ⟨[]⟩, fun p => by
    have h : ∀ l : List Int, (l.map (enc : Int → D)).map dec = l := fun l => Bs
    obtain ⟨l⟩ := p
    simp [D.l,h]⟩
theorem Dl {l : List Int} : (enc (NoneF.mk l) : D) = .clo 106 [.ptr 1 (.list 1 (l.map enc))] := rfl
theorem NoneF_l {l : List Int} : (NoneF.mk l).l = l := rfl
theorem dec_NoneF {l : List Int} : (dec (.clo 106 [.ptr 1 (.list 1 (l.map enc))]) : NoneF) = ⟨l⟩ := Enc.dec_enc (NoneF.mk l)
theorem isE_NoneF {l : List Int} : isE NoneF (.clo 106 [.ptr 1 (.list 1 (l.map enc))]) = True := eq_true (Lf (NoneF.mk l))
theorem dec_NoneS {l : List Int} : (dec (.clo 106 [.ptr 1 (enc (Sl.mk l))]) : NoneF) = ⟨l⟩ := Enc.dec_enc (NoneF.mk l)
theorem isE_NoneS {l : List Int} : isE NoneF (.clo 106 [.ptr 1 (enc (Sl.mk l))]) = True := eq_true (Lf (NoneF.mk l))
def A9 (l : List Int) (n : Node) : Bool := l.any (isI n.kind)
def Dv : Con := Bg (fun (_ : Node) (p : PI) => p.l.length ≤ 1000000) (fun n p => A9 p.l n)
noncomputable def ctx_noneN : Ctx := ⟨tab, lkC [(107, Bb)], 60, lkB [], [], false⟩
theorem ctx_noneN_t : ctx_noneN.τ = tab := rfl
theorem ctx_noneN_c : ctx_noneN.Γ = lkC [(107, Bb)] := rfl
theorem ctx_noneN_d : ctx_noneN.dp = 60 := rfl
theorem ctx_noneN_b : ctx_noneN.Δ = lkB [] := rfl
theorem good_noneN : Gj Tryz.prog (106, Dv) := by
  refine ⟨U7 Tryz.func106 (by kernel_rfl) rfl, ?_⟩
  have K : Ky Tryz.prog ctx_noneN := Kd K6 Ki (by
    intro p hp
    simp only [List.mem_cons, List.not_mem_nil, or_false] at hp
    rcases hp with rfl
    · exact good_containsInt) (by simp)
  obtain ⟨c, hc⟩ : ∃ c, Tryz.f106.body = some c := ⟨_, rfl⟩
  refine Ke K Tryz.func106 hc [.tmp 3] rfl 8 rfl (fun cvs hpre => ?_)
  change Dv.pre cvs at hpre
  unfold Dv at hpre
  obtain ⟨n, ⟨l⟩, rfl, hl⟩ := Gi hpre
  simp only at hl
  have hf : A9 l n = l.any (isI n.kind) := rfl
  simp only [Tryz.f106, Option.some.injEq] at hc
  subst hc
  (sym =>
   simp [enc_PI,dec_PI,PI_l,hf,Uu,Us,Uv,Ur,szN,Ut,ctx_noneN_t,ctx_noneN_c,ctx_noneN_d,ctx_noneN_b,Bb.eq_def,Dv.eq_def,Za,Zb,Zc,Ze,Zf,Zo,Zp,Zq,Zs,Zu,Zv,Zx,Z9,Qe,Qf,Ql,Qm,Qn,Qo,Qp,Qq,Qs,Q1,Q2,Q4,Q8,Jf,Jh,Ji,Jj,Jk,Jl,Jw,J3,J4,Xf,Xs,Xv,X4,X6,Wb,Wc,Wf,Wh,Wi,Wj,Wt,Wu,Wv,Ww,Wx,Wy,Wz,W0,W4,W5,W6,W7,W8,Yq,Yv,Yy,Y7,Y8,Y9,Va,Vb,Vc,Vh,Vk,Vl,Vm,Vu,V5,Um,Un,U8,U3,H9]
   tactic =>
    try simp only [U1] at *
    try simp only [nc2] at *
    try simp (maxSteps := 4000000) only [enc_PI,dec_PI,PI_l,hf,Uu,Us,Uv,Ur,szN,Ut,U9]
    repeat' (first | with_reducible assumption | with_reducible refine And.intro ?_ ?_ | intro _ | omega | (rw [U0]; omega)))
def Lq : Con := Bg (fun (l : Sl Node) (f : NoneF) => l.l.length ≤ 9223372036854775807 ∧ f.l.length ≤ 1000000) (fun l f => idxP (A9 f.l) l.l)
noncomputable def S1 : Ctx := ⟨tab, lkC [(106, Dv)], 60, lkB [], [], false⟩
theorem C1 : S1.τ = tab := rfl
theorem ctx_indexNode_c : S1.Γ = lkC [(106, Dv)] := rfl
theorem Rn : S1.dp = 60 := rfl
theorem ctx_indexNode_b : S1.Δ = lkB [] := rfl
theorem ctx_indexNode_w : S1.wr = false := rfl
theorem good_indexNode : Gj Tryz.prog (108, Lq) := by
  refine ⟨U7 Tryz.func108 (by kernel_rfl) rfl, ?_⟩
  have K : Ky Tryz.prog S1 := Kd K6 Ki (by
    intro p hp
    simp only [List.mem_cons, List.not_mem_nil, or_false] at hp
    rcases hp with rfl
    · exact good_noneN) (by simp)
  obtain ⟨c, hc⟩ : ∃ c, Tryz.f108.body = some c := ⟨_, rfl⟩
  refine Ke K Tryz.func108 hc [.tmp 4] rfl 19 rfl (fun cvs hpre => ?_)
  change Lq.pre cvs at hpre
  unfold Lq at hpre
  obtain ⟨⟨l⟩, ⟨v⟩, rfl, hl, hv⟩ := Gi hpre
  simp only at hl hv
  simp only [Tryz.f108, Option.some.injEq] at hc
  subst hc
  (sym =>
   simp [Dl,Uu,Us,Uv,Ur,szN,Ut,C1,Lq.eq_def,Za,Zb,Zc,Ze,Zf,Zo,Z6,Qq,Qs,Q1,Q2,Q4,Jw,J3,J4,Xv,X4,X6,X8,X9,Wc,Wf,Wh,Wi,Wj,Wt,Wu,Wv,Ww,Wy,W0,W6,W7,Yx,Y0,Y1,Y7,Y8,Y9,Va,Vb,Vc,Vj,Vu,V4,Um,Up,U8,U4,U3,tab78]
   tactic =>
    try simp only [U1] at *
    try simp only [nc2] at *
    try simp (maxSteps := 4000000) only [Dl,Uu,Us,Uv,Ur,szN,Ut,U9]
    refine Km [4, 5, 9, 10, 11, 12, 13, 14, 15, 16, 17, 18] (fun k : Nat => [(8, .d (.int .i64 k))]) (fun k : Nat => []) (fun k : Nat => k ≤ l.length ∧ ∀ j, j < k → A9 v (l.getD j ⟨0, [], 0⟩) = false) (fun k : Nat => l.length - k) 0 ?_ ?_ ?_
    · simp
    · ((try simp only [U2, Ka, U6, Kg, upd, Kh, Ko, Gd, Nat.reduceDiv, Nat.reduceMod, Nat.reduceMul, Nat.reduceAdd, Nat.reduceEqDiff, List.set_cons_zero, List.set_cons_succ, if_true, if_false, reduceIte]); (first | refine Wk.of_fl ?_ | skip); simp only [Wk, wkK, Gl, wkT, wk1, AV.kept, keptAll, wkO, lk, U5, and_true, true_and, and_self, Nat.reduceEqDiff, Nat.reduceLeDiff, if_true, if_false, reduceIte, reduceCtorEq, Option.isSome, false_implies]; try simp [Wk, wkK, wkT, wk1, AV.kept, keptAll, wkO, lk, U5])
    rintro k ⟨hk, hno⟩
    rcases Ks k l.length with ⟨hlt, hlb⟩ | ⟨hlt, hlb⟩
    · have q1 := Kf (⟨0, [], 0⟩ : Node) hlt
      cases hs : A9 v (l.getD k ⟨0, [], 0⟩) with
      | false =>
        (sym =>
         simp [hlb,q1,hs,Dl,dec_PI,isE_PI,PI_l,Uu,Us,Uv,Ur,szN,Ut,C1,ctx_indexNode_c,Rn,ctx_indexNode_b,ctx_indexNode_w,Dv.eq_def,Zb,Zc,Ze,Zf,Zg,Zo,Zp,Zq,Zv,Zy,Z9,Qa,Qb,Qd,Qe,Qf,Qq,Qs,Q1,Q2,Q4,Q8,Jf,Jj,Jl,Jy,Jz,J0,Xf,Xp,Xv,X3,X4,X6,X7,X8,Wc,Wf,Wh,Wi,Wj,Wt,Wu,Wx,Wz,W0,W4,W5,Yd,Ye,Yi,Ym,Yy,Y0,Y1,Y7,Y8,Y9,Va,Vb,Vc,Vr,Vt,Vu,V4,Uk,Ul,Um,Un,Uo,Up,U8,U4,U3,tab78]
         tactic =>
          try simp only [U1] at *
          try simp only [nc2] at *
          try simp (maxSteps := 4000000) only [hlb,q1,hs,Dl,dec_PI,isE_PI,PI_l,Uu,Us,Uv,Ur,szN,Ut,U9]
          repeat' (first | with_reducible assumption | with_reducible refine And.intro ?_ ?_ | intro _ | omega | (rw [U0]; omega))
          refine ⟨k + 1, by ((try simp only [U2, Ka, U6, Kg, upd, Kh, Ko, Gd, Nat.reduceDiv, Nat.reduceMod, Nat.reduceMul, Nat.reduceAdd, Nat.reduceEqDiff, List.set_cons_zero, List.set_cons_succ, if_true, if_false, reduceIte]); (first | refine Wk.of_fl ?_ | skip); simp only [Wk, wkK, Gl, wkT, wk1, AV.kept, keptAll, wkO, lk, U5, and_true, true_and, and_self, Nat.reduceEqDiff, Nat.reduceLeDiff, if_true, if_false, reduceIte, reduceCtorEq, Option.isSome, false_implies]; try simp [Wk, wkK, wkT, wk1, AV.kept, keptAll, wkO, lk, U5]), by omega, fun j hj => ?_, by omega⟩
          by_cases hjk : j = k
          · subst hjk; exact hs
          · exact hno j (by omega))
      | true =>
        have hr := idxP_at ⟨0, [], 0⟩ hlt hno hs
        (sym =>
         simp [hlb,q1,hs,hr,Dl,dec_NoneF,dec_PI,isE_PI,PI_l,NoneF_l,Uu,Us,Uv,Ur,szN,Ut,C1,ctx_indexNode_c,Rn,ctx_indexNode_b,Dv.eq_def,Zb,Zc,Ze,Zf,Zg,Zo,Zp,Zq,Zv,Zy,Z9,Qa,Qb,Qd,Qe,Qf,Qn,Qo,Qp,Qq,Qs,Q1,Q2,Q4,Q8,Jf,Jj,Jk,Jl,Jy,Jz,J0,Xf,Xp,Xv,X3,X4,X6,X7,X8,Wb,Wc,Wf,Wh,Wi,Wj,Wt,Wu,Wx,Wz,W0,W4,W5,Yd,Ye,Yi,Ym,Yy,Y0,Y1,Y7,Y8,Y9,Va,Vb,Vc,Vr,Vt,Vu,Uk,Um,Un,Uo,Up,U8,U4,U3,tab78]
         tactic =>
          try simp only [U1] at *
          try simp only [nc2] at *
          try simp (maxSteps := 4000000) only [hlb,q1,hs,hr,Dl,dec_NoneF,dec_PI,isE_PI,PI_l,NoneF_l,Uu,Us,Uv,Ur,szN,Ut,U9]
          repeat' (first | with_reducible assumption | with_reducible refine And.intro ?_ ?_ | intro _ | omega | (rw [U0]; omega)))
    · have hr := idxP_none (p := A9 v) (l := l) ⟨0, [], 0⟩ (fun j hj => hno j (by omega))
      (sym =>
       simp [hlb,hr,dec_NoneF,NoneF_l,Uu,Us,Uv,Ur,szN,Ut,C1,Rn,Zb,Zc,Ze,Zf,Zg,Qb,Qd,Qn,Qo,Qp,Qq,Qs,Q1,Q2,Q4,Q8,Jk,Jy,Jz,J0,Xf,X4,X6,X7,Wa,Wb,Wc,Wf,Wh,Wi,Wt,Wu,Yd,Ye,Yi,Y7,Y8,Y9,Va,Vt,V4,Ul,Um,Un,Uo,U8,U4,U3,tab78]))
def Pd : Con := Bg (fun (l : Sl Node) (f : NoneF) => l.l.length ≤ 9223372036854775807 ∧ f.l.length ≤ 1000000) (fun l f => l.l.any (A9 f.l))
noncomputable def Ly : Ctx := ⟨tab, lkC [(108, Lq)], 60, lkB [], [], false⟩
theorem ctx_containsNode_t : Ly.τ = tab := rfl
theorem ctx_containsNode_c : Ly.Γ = lkC [(108, Lq)] := rfl
theorem ctx_containsNode_d : Ly.dp = 60 := rfl
theorem ctx_containsNode_b : Ly.Δ = lkB [] := rfl
theorem good_containsNode : Gj Tryz.prog (105, Pd) := by
  refine ⟨U7 Tryz.func105 (by kernel_rfl) rfl, ?_⟩
  have K : Ky Tryz.prog Ly := Kd K6 Ki (by
    intro p hp
    simp only [List.mem_cons, List.not_mem_nil, or_false] at hp
    rcases hp with rfl
    · exact good_indexNode) (by simp)
  obtain ⟨c, hc⟩ : ∃ c, Tryz.f105.body = some c := ⟨_, rfl⟩
  refine Ke K Tryz.func105 hc [.tmp 4] rfl 9 rfl (fun cvs hpre => ?_)
  change Pd.pre cvs at hpre
  unfold Pd at hpre
  obtain ⟨⟨l⟩, ⟨v⟩, rfl, hl, hv⟩ := Gi hpre
  simp only at hl hv
  have h := idxP_any (p := A9 v) (l := l)
  simp only [Tryz.f105, Option.some.injEq] at hc
  subst hc
  (sym =>
   simp [h,Dl,dec_NoneF,isE_NoneF,NoneF_l,Uu,Us,Uv,Ur,szN,Ut,ctx_containsNode_t,ctx_containsNode_c,ctx_containsNode_d,ctx_containsNode_b,Pd.eq_def,Lq.eq_def,Za,Zb,Zc,Ze,Zf,Z9,Qb,Qd,Qe,Qf,Qn,Qo,Qp,Qq,Qs,Q1,Q2,Q4,Q8,Jf,Jj,Jk,Jl,Jw,J3,J4,Xf,Xv,X4,X6,Wb,Wc,Wf,Wh,Wi,Wt,Wu,Wv,Ww,Wx,Wy,Wz,W0,W6,W7,Ye,Yi,Yx,Yy,Y7,Y8,Y9,Va,Vb,Vc,Vj,Vo,Vu,V4,V5,Um,Un,U8,U4,U3,tab78]
   tactic =>
    try simp only [U1] at *
    try simp only [nc2] at *
    try simp (maxSteps := 4000000) only [h,Dl,dec_NoneF,isE_NoneF,NoneF_l,Uu,Us,Uv,Ur,szN,Ut,U9]
    repeat' (first | with_reducible assumption | with_reducible refine And.intro ?_ ?_ | intro _ | omega | (rw [U0]; omega)))
def Fe : Con := Bg (fun (l : Sl Node) (f : Sl Int) => l.l.length ≤ 9223372036854775807 ∧ f.l.length ≤ 1000000) (fun l f => !l.l.any (A9 f.l))
noncomputable def ctx_noneT : Ctx := ⟨tab, lkC [(105, Pd)], 60, lkB [], [], false⟩
theorem ctx_noneT_t : ctx_noneT.τ = tab := rfl
theorem ctx_noneT_c : ctx_noneT.Γ = lkC [(105, Pd)] := rfl
theorem ctx_noneT_d : ctx_noneT.dp = 60 := rfl
theorem ctx_noneT_b : ctx_noneT.Δ = lkB [] := rfl
theorem good_noneT : Gj Tryz.prog (103, Fe) := by
  refine ⟨U7 Tryz.func103 (by kernel_rfl) rfl, ?_⟩
  have K : Ky Tryz.prog ctx_noneT := Kd K6 Ki (by
    intro p hp
    simp only [List.mem_cons, List.not_mem_nil, or_false] at hp
    rcases hp with rfl
    · exact good_containsNode) (by simp)
  obtain ⟨c, hc⟩ : ∃ c, Tryz.f103.body = some c := ⟨_, rfl⟩
  refine Ke K Tryz.func103 hc [.tmp 4] rfl 9 rfl (fun cvs hpre => ?_)
  change Fe.pre cvs at hpre
  unfold Fe at hpre
  obtain ⟨⟨l⟩, ⟨v⟩, rfl, hl, hv⟩ := Gi hpre
  simp only at hl hv
  simp only [Tryz.f103, Option.some.injEq] at hc
  subst hc
  (sym =>
   simp [dec_NoneS,isE_NoneS,NoneF_l,Uu,Us,Uv,Ur,szN,Ut,ctx_noneT_t,ctx_noneT_c,ctx_noneT_d,ctx_noneT_b,Pd.eq_def,Fe.eq_def,Za,Zb,Zc,Ze,Zf,Zo,Zp,Zq,Zu,Z9,Qc,Qd,Qe,Qf,Qi,Ql,Qn,Qo,Qp,Qq,Qs,Q1,Q2,Q4,Q8,Ja,Jf,Jh,Ji,Jj,Jk,Jl,Jw,J3,J4,Xf,Xi,Xk,Xl,Xm,Xv,X4,X6,Wb,Wc,Wf,Wh,Wi,Wj,Wt,Wu,Wv,Ww,Wx,Wy,Wz,W0,W3,W6,W7,Yf,Yj,Yy,Y2,Y7,Y8,Y9,Va,Vb,Vc,Vj,Vo,Vu,V5,Ui,Um,Un,U8,Ku,U4,U3,H9]
   tactic =>
    try simp only [U1] at *
    try simp only [nc2] at *
    try simp (maxSteps := 4000000) only [dec_NoneS,isE_NoneS,NoneF_l,Uu,Us,Uv,Ur,szN,Ut,U9]
    repeat' (first | with_reducible assumption | with_reducible refine And.intro ?_ ?_ | intro _ | omega | (rw [U0]; omega)))
theorem plain_none (t : List Node) : (!t.any (A9 [8, 9])) = Nt t := by
  unfold Nt
  rw [List.not_any_eq_all_not]
  congr 1
  funext n
  simp [A9,isI,bne]
def Sr : Con := Ss (fun (t : Sl Node) => t.l.length ≤ 9223372036854775807) (fun t => Nt t.l)
noncomputable def I2 : Ctx := ⟨tab, lkC [(103, Fe)], 60, lkB [], [], false⟩
theorem ctx_PlainT_t : I2.τ = tab := rfl
theorem ctx_PlainT_c : I2.Γ = lkC [(103, Fe)] := rfl
theorem ctx_PlainT_d : I2.dp = 60 := rfl
theorem ctx_PlainT_b : I2.Δ = lkB [] := rfl
theorem good_PlainT : Gj Tryz.prog (90, Sr) := by
  refine ⟨U7 Tryz.func90 (by kernel_rfl) rfl, ?_⟩
  have K : Ky Tryz.prog I2 := Kd K6 Ki (by
    intro p hp
    simp only [List.mem_cons, List.not_mem_nil, or_false] at hp
    rcases hp with rfl
    · exact good_noneT) (by simp)
  obtain ⟨c, hc⟩ : ∃ c, Tryz.f90.body = some c := ⟨_, rfl⟩
  refine Ke K Tryz.func90 hc [.tmp 2] rfl 6 rfl (fun cvs hpre => ?_)
  change Sr.pre cvs at hpre
  unfold Sr at hpre
  obtain ⟨⟨t⟩, rfl, ht⟩ := Ha hpre
  simp only at ht
  have h := plain_none t
  simp only [Tryz.f90, Option.some.injEq] at hc
  subst hc
  (sym =>
   simp [h,Uu,Us,Uv,Ur,szN,Ut,ctx_PlainT_t,ctx_PlainT_c,ctx_PlainT_d,ctx_PlainT_b,Sr.eq_def,Fe.eq_def,Za,Zb,Zc,Ze,Zf,Zo,Zr,Z1,Z9,Qe,Qf,Qn,Qo,Qp,Qq,Qs,Q1,Q2,Q4,Q8,Jb,Jc,Jd,Je,Jf,Jg,Jh,Ji,Jj,Jk,Jl,Jw,J3,J4,Xd,Xe,Xf,Xh,Xu,Xv,X4,X6,Wb,Wc,Wf,Wh,Wi,Wj,Wn,Wt,Wu,Wv,Ww,Wx,Wy,Wz,W0,W3,W4,W5,W6,W7,Yn,Yy,Y7,Y8,Y9,Va,Vb,Vc,Vh,Vj,Vk,Vo,Vu,V3,V4,V5,V9,Um,Un,U8,U4,U3,H9]
   tactic =>
    try simp only [U1] at *
    try simp only [nc2] at *
    try simp (maxSteps := 4000000) only [h,Uu,Us,Uv,Ur,szN,Ut,U9]
    repeat' (first | with_reducible assumption | with_reducible refine And.intro ?_ ?_ | intro _ | omega | (rw [U0]; omega)))
end Go.Am.Ty
set_option linter.unusedSimpArgs false
set_option linter.unusedVariables false
set_option maxHeartbeats 1000000
namespace Go.Am.Ty
open Go.Proofs
open Enc (enc dec)
structure Rune where
  v : Int
instance encRune : Enc Rune := ⟨fun a => .int .i32 a.v, fun x => ⟨x.i⟩, fun _ => rfl⟩
theorem enc_Rune {a : Rune} : (enc a : D) = .int .i32 a.v := rfl
theorem dec_Rune {v : Int} : (dec (.int .i32 v) : Rune) = ⟨v⟩ := rfl
theorem isE_Rune {v : Int} : isE Rune (.int .i32 v) = True := eq_true rfl
theorem Rune_v {v : Int} : (Rune.mk v).v = v := rfl
theorem rune_eta {a : Rune} : Rune.mk a.v = a := rfl
def Em (r : Int) : Bool := leB 97 r && leB r 122
def Eu (r : Int) : Bool := leB 65 r && leB r 90
def Fs (r : Int) : Bool := Em r || (Eu r || ((leB 48 r && leB r 57) || r == 95))
def Sn : Con := Ss (fun (_ : Rune) => True) (fun a => Em a.v)
noncomputable def ctx_isSmallG : Ctx := ⟨tab, lkC [], 60, lkB [], [], false⟩
theorem ctx_isSmallG_t : ctx_isSmallG.τ = tab := rfl
theorem ctx_isSmallG_d : ctx_isSmallG.dp = 60 := rfl
theorem good_isSmallG : Gj Tryz.prog (74, Sn) := by
  refine ⟨U7 Tryz.func74 (by kernel_rfl) rfl, ?_⟩
  have K : Ky Tryz.prog ctx_isSmallG := Kd K6 Ki (by simp) (by simp)
  obtain ⟨c, hc⟩ : ∃ c, Tryz.f74.body = some c := ⟨_, rfl⟩
  refine Ke K Tryz.func74 hc [.tmp 2] rfl 9 rfl (fun cvs hpre => ?_)
  change Sn.pre cvs at hpre
  unfold Sn at hpre
  obtain ⟨a, rfl, -⟩ := Ha hpre
  simp only [Tryz.f74, Option.some.injEq] at hc
  subst hc
  (sym =>
   simp [enc_Rune,dec_Rune,isE_Rune,rune_eta,ctx_isSmallG_t,ctx_isSmallG_d,Sn.eq_def,Za,Zb,Zc,Zd,Ze,Zf,Zt,Qb,Qd,Qn,Qo,Qp,Qq,Qs,Q1,Q2,Q4,Q8,Jk,Jw,J3,J4,Xf,Xu,X4,X6,Wb,Wc,Wf,Wh,Wi,Wt,Wu,Wv,Ww,Wy,W0,W6,W7,W8,W9,Ye,Yi,Yy,Y7,Y8,Y9,Va,Vb,Vc,V4,V5,Uk,Ul,Um,Un,tab21]
   tactic =>
    try simp only [U1] at *
    try simp only [nc2] at *
    try simp (maxSteps := 4000000) only [enc_Rune,dec_Rune,isE_Rune,rune_eta,U9]
    unfold Em
    repeat' (first | with_reducible assumption | with_reducible refine And.intro ?_ ?_ | intro _ | omega | (rw [U0]; omega))
    all_goals first
      | (simp_all [leB]; done)
      | (simp_all [leB]; omega))
def Sp : Con := Ss (fun (_ : Rune) => True) (fun a => Eu a.v)
noncomputable def ctx_isGreatG : Ctx := ⟨tab, lkC [], 60, lkB [], [], false⟩
theorem ctx_isGreatG_t : ctx_isGreatG.τ = tab := rfl
theorem ctx_isGreatG_d : ctx_isGreatG.dp = 60 := rfl
theorem good_isGreatG : Gj Tryz.prog (88, Sp) := by
  refine ⟨U7 Tryz.func88 (by kernel_rfl) rfl, ?_⟩
  have K : Ky Tryz.prog ctx_isGreatG := Kd K6 Ki (by simp) (by simp)
  obtain ⟨c, hc⟩ : ∃ c, Tryz.f88.body = some c := ⟨_, rfl⟩
  refine Ke K Tryz.func88 hc [.tmp 2] rfl 9 rfl (fun cvs hpre => ?_)
  change Sp.pre cvs at hpre
  unfold Sp at hpre
  obtain ⟨a, rfl, -⟩ := Ha hpre
  simp only [Tryz.f88, Option.some.injEq] at hc
  subst hc
  (sym =>
   simp [enc_Rune,dec_Rune,isE_Rune,rune_eta,ctx_isGreatG_t,ctx_isGreatG_d,Sp.eq_def,Za,Zb,Zc,Zd,Ze,Zf,Zt,Qb,Qd,Qn,Qo,Qp,Qq,Qs,Q1,Q2,Q4,Q8,Jk,Jw,J3,J4,Xf,Xu,X4,X6,Wb,Wc,Wf,Wh,Wi,Wt,Wu,Wv,Ww,Wy,W0,W6,W7,W8,W9,Ye,Yi,Yy,Y7,Y8,Y9,Va,Vb,Vc,V4,V5,Uk,Ul,Um,Un,tab21]
   tactic =>
    try simp only [U1] at *
    try simp only [nc2] at *
    try simp (maxSteps := 4000000) only [enc_Rune,dec_Rune,isE_Rune,rune_eta,U9]
    unfold Eu
    repeat' (first | with_reducible assumption | with_reducible refine And.intro ?_ ?_ | intro _ | omega | (rw [U0]; omega))
    all_goals first
      | (simp_all [leB]; done)
      | (simp_all [leB]; omega))
def Fr : Con := Ss (fun (_ : Rune) => True) (fun a => Fs a.v)
noncomputable def Ct : Ctx := ⟨tab, lkC [(74, Sn), (88, Sp)], 60, lkB [], [], false⟩
theorem ctx_isBehindG_t : Ct.τ = tab := rfl
theorem ctx_isBehindG_c : Ct.Γ = lkC [(74, Sn), (88, Sp)] := rfl
theorem ctx_isBehindG_d : Ct.dp = 60 := rfl
theorem ctx_isBehindG_b : Ct.Δ = lkB [] := rfl
theorem good_isBehindG : Gj Tryz.prog (93, Fr) := by
  refine ⟨U7 Tryz.func93 (by kernel_rfl) rfl, ?_⟩
  have K : Ky Tryz.prog Ct := Kd K6 Ki (by
    intro p hp
    simp only [List.mem_cons, List.not_mem_nil, or_false] at hp
    rcases hp with rfl | rfl
    · exact good_isSmallG
    · exact good_isGreatG) (by simp)
  obtain ⟨c, hc⟩ : ∃ c, Tryz.f93.body = some c := ⟨_, rfl⟩
  refine Ke K Tryz.func93 hc [.tmp 2] rfl 21 rfl (fun cvs hpre => ?_)
  change Fr.pre cvs at hpre
  unfold Fr at hpre
  obtain ⟨a, rfl, -⟩ := Ha hpre
  simp only [Tryz.f93, Option.some.injEq] at hc
  subst hc
  (sym =>
   simp [enc_Rune,dec_Rune,isE_Rune,rune_eta,Rune_v,ctx_isBehindG_t,ctx_isBehindG_c,ctx_isBehindG_d,ctx_isBehindG_b,Fr.eq_def,Sp.eq_def,Sn.eq_def,Za,Zb,Zc,Zd,Ze,Zf,Zt,Z9,Qb,Qd,Qe,Qf,Qn,Qo,Qp,Qq,Qs,Q1,Q2,Q4,Q8,Jf,Jj,Jk,Jl,Jw,J3,J4,Xf,Xu,X4,X6,Wb,Wc,Wf,Wh,Wi,Wt,Wu,Wv,Ww,Wx,Wy,Wz,W0,W6,W7,W8,W9,Ye,Yi,Yy,Y7,Y8,Y9,Va,Vb,Vc,V4,V5,Uk,Ul,Um,Un,tab21]
   tactic =>
    try simp only [U1] at *
    try simp only [nc2] at *
    try simp (maxSteps := 4000000) only [enc_Rune,dec_Rune,isE_Rune,rune_eta,Rune_v,U9]
    unfold Fs
    repeat' (first | with_reducible assumption | with_reducible refine And.intro ?_ ?_ | intro _ | omega | (rw [U0]; omega))
    all_goals first
      | (simp_all [leB]; done)
      | (simp_all [leB]; omega))
theorem calls_of_good2 {P : Program} {f : FuncId} {con : Con} {b : Bool} (hg : Gj P (f, con)) (W : World) (xs : List D) (args : Array Value) (hR : Rs (Oq W) xs args.toList) (hpre : con.pre (xs.map .d)) (hfn : con.fn (xs.map .d) = .d (.bool b)) :
    Calls P f args W fun e W' => e = .returned (.bool b) ∧ Go.RowKit.Below W.heap.size W W' := by
  have h := hg.2 (Oq W).m W (xs.map .d) args.toList hpre (CVRs_of_Rs hR) (by rw [ownsOf_d]; exact List.nodup_nil) (fixOf_new W)
  rw [show args.toList.toArray = args by simp] at h
  refine h.mono ?_
  rintro e W' ⟨v, m', rfl, hfr, _, _, hres⟩
  change Res _ _ _ (con.fn (xs.map .d)) v at hres
  rw [hfn] at hres
  simp only [Res, Lm, CVR, R] at hres
  obtain ⟨⟨v1, r, hv1, rfl, rfl⟩, _⟩ := hres
  injection hv1 with hv1 _
  subst hv1
  refine ⟨rfl, hfr.os, hfr.tape, hfr.output, hfr.size, fun k hk => hfr.block k hk ?_⟩
  rw [ownsOf_d]
  exact List.not_mem_nil
theorem rune_calls {f : FuncId} {p : Int → Bool} (hg : Gj Tryz.prog (f, Ss (fun (_ : Rune) => True) (fun a => p a.v))) (r : Int) (W : World) :
    Calls Tryz.prog f #[.int .i32 r] W fun e W' => e = .returned (.bool (p r)) ∧ Go.RowKit.Below W.heap.size W W' :=
  calls_of_good2 (con := Ss (fun (_ : Rune) => True) (fun a => p a.v)) hg W [.int .i32 r] #[.int .i32 r] ⟨_, _, rfl, rfl, rfl⟩ ⟨rfl, trivial⟩ rfl
theorem calls_isSmall (r : Int) (W : World) : Calls Tryz.prog 74 #[.int .i32 r] W fun e W' => e = .returned (.bool (Em r)) ∧ Go.RowKit.Below W.heap.size W W' := rune_calls good_isSmallG r W
theorem calls_isGreat (r : Int) (W : World) : Calls Tryz.prog 88 #[.int .i32 r] W fun e W' => e = .returned (.bool (Eu r)) ∧ Go.RowKit.Below W.heap.size W W' := rune_calls good_isGreatG r W
theorem Ef (r : Int) (W : World) : Calls Tryz.prog 93 #[.int .i32 r] W fun e W' => e = .returned (.bool (Fs r)) ∧ Go.RowKit.Below W.heap.size W W' := rune_calls good_isBehindG r W
end Go.Am.Ty
set_option linter.unusedSimpArgs false
set_option linter.unusedVariables false
set_option maxHeartbeats 1000000
namespace Go.Am.Ty
open Go.Proofs Go.RowKit
theorem width_pos (s : ByteArray) (pos : Nat) (h : pos < s.size) : 1 ≤ (Utf8.decode s pos).2 := by
  simp only [Utf8.decode]
  repeat' split
  all_goals simp
def M9 (p : Int → Bool) (s : ByteArray) : Nat → Nat → Bool
  | 0, _ => true
  | n + 1, pos => if pos < s.size then (cond (pos == 0) (p ((Utf8.decode s pos).1 : Int)) (Fs ((Utf8.decode s pos).1 : Int)) && M9 p s n (pos + (Utf8.decode s pos).2)) else true
theorem fitsGo_end {p : Int → Bool} {s : ByteArray} {n pos : Nat} (h : ¬ pos < s.size) : M9 p s n pos = true := by
  cases n with
  | zero => rfl
  | succ n => rw [M9, if_neg h]
theorem Rf {B B' : Nat} {a b : World} (h : Below B' a b) (hl : B ≤ B') : Below B a b := ⟨h.os, h.tape, h.output, h.size, fun k hk => h.block k (by omega)⟩
theorem fits_small (s : ByteArray) (w : World) :
    Calls Tryz.prog 73 #[.string s, .func (.func 74) #[] #[]] w fun e w' => e = .returned (.bool (M9 Em s s.size 0 && !(s.data.toList == []))) ∧ Below w.heap.size w w' := by
  go_enter Tryz.func73, Tryz.ntmps73
  go_wp2
  go_loopw [] (fun wr => ∃ pos fuel : Nat, wr.heap[w.heap.size]? = some (.stringIter s pos) ∧ Below w.heap.size w wr ∧ Hid (M9 Em s fuel pos = M9 Em s s.size 0) ∧ s.size ≤ pos + fuel) (fun wr => s.size - wr.iterPos w.heap.size)
  case atStart => exact ⟨0, s.size, World.iter_heap w s 0, (Below.refl _ _).alloc (Nat.le_refl _) _, rfl, by omega⟩
  case round =>
    obtain ⟨pos, fuel, hit, hbw, HS, hb⟩ := hrel
    have hpos0 := iterPos_of hit
    by_cases hp : pos < s.size
    · have hnx : ∀ ty, (Instr.next (.pointer (some ⟨w.heap.size, 0, none⟩)) true ty).run Tryz.prog wr = _ := fun ty => Lib.run_next_any_at wr w.heap.size s pos ty hit hp
      have hwd := width_pos s pos hp
      obtain ⟨fuel, rfl⟩ : ∃ f', fuel = f' + 1 := ⟨fuel - 1, by omega⟩
      have hit2 := Lib.iterAt_heap wr w.heap.size s pos (pos + (Utf8.decode s pos).2) hit
      have hbw2 := Lib.below_iterAt hbw (k := w.heap.size) (Nat.le_refl _) s (pos + (Utf8.decode s pos).2)
      obtain ⟨W1, hW1⟩ : ∃ W1, W1 = wr.iterAt w.heap.size s (pos + (Utf8.decode s pos).2) := ⟨_, rfl⟩
      rw [← hW1] at hnx hit2 hbw2
      have hlt : w.heap.size < W1.heap.size := lt_of_block hit2
      clear hW1 hit hbw
      by_cases h0 : pos = 0
      · subst h0
        cases hr : Em ((Utf8.decode s 0).1 : Int) with
        | false =>
          go_wp2_with (go_at_call 74; refine (calls_isSmall _ _).mono ?_; rintro e W2 ⟨rfl, hb2⟩; simp only [hr])
          go_ret
          refine ⟨?_, hbw2.trans (Rf hb2 (by first | omega | (simp; omega) | exact hlt | exact Nat.le_of_lt hlt))⟩
          have e0 : M9 Em s s.size 0 = false := by rw [← HS.out]; simp [M9, hp, hr]
          rw [e0, Bool.false_and]
          rfl
        | true =>
          go_wp2_with (go_at_call 74; refine (calls_isSmall _ _).mono ?_; rintro e W2 ⟨rfl, hb2⟩; simp only [hr])
          have hit3 : W2.heap[w.heap.size]? = some (.stringIter s (0 + (Utf8.decode s 0).2)) := (hb2.block w.heap.size (by first | omega | (simp; omega) | exact hlt | exact Nat.le_of_lt hlt)).trans hit2
          refine ⟨⟨_, fuel, hit3, hbw2.trans (Rf hb2 (by first | omega | (simp; omega) | exact hlt | exact Nat.le_of_lt hlt)), ?_, by omega⟩, ?_⟩
          · show _ = _
            rw [← HS.out]
            simp [M9,hp,hr]
          · rw [iterPos_of hit3, hpos0]
            omega
      · have hpb : ((pos : Int) == 0) = false := by rw [beq_eq_false_iff_ne]; omega
        have hpg : (decide ((pos : Int) > 0)) = true := by rw [decide_eq_true_eq]; omega
        have hpn : (pos == 0) = false := by rw [beq_eq_false_iff_ne]; exact h0
        cases hr : Fs ((Utf8.decode s pos).1 : Int) with
        | false =>
          go_wp2_with (go_at_call 93; refine (Ef _ _).mono ?_; rintro e W2 ⟨rfl, hb2⟩; simp only [hr])
          go_ret
          refine ⟨?_, hbw2.trans (Rf hb2 (by first | omega | (simp; omega) | exact hlt | exact Nat.le_of_lt hlt))⟩
          have e0 : M9 Em s s.size 0 = false := by rw [← HS.out]; simp [M9, hp, hr, hpn]
          rw [e0, Bool.false_and]
          rfl
        | true =>
          go_wp2_with (go_at_call 93; refine (Ef _ _).mono ?_; rintro e W2 ⟨rfl, hb2⟩; simp only [hr])
          have hit3 : W2.heap[w.heap.size]? = some (.stringIter s (pos + (Utf8.decode s pos).2)) := (hb2.block w.heap.size (by first | omega | (simp; omega) | exact hlt | exact Nat.le_of_lt hlt)).trans hit2
          refine ⟨⟨_, fuel, hit3, hbw2.trans (Rf hb2 (by first | omega | (simp; omega) | exact hlt | exact Nat.le_of_lt hlt)), ?_, by omega⟩, ?_⟩
          · show _ = _
            rw [← HS.out]
            simp [M9,hp,hr,hpn]
          · rw [iterPos_of hit3, hpos0]
            omega
    · have hnx : ∀ ty, (Instr.next (.pointer (some ⟨w.heap.size, 0, none⟩)) true ty).run Tryz.prog wr = _ := fun ty => Lib.run_next_end_at wr w.heap.size s pos ty hit hp
      go_wp2
      go_ret
      refine ⟨?_, hbw⟩
      rw [← HS.out, fitsGo_end hp, Bool.true_and]
      congr 2
      rw [ByteArray.toList_mk]
      cases s.data.toList <;> rfl
theorem fits_great (s : ByteArray) (w : World) :
    Calls Tryz.prog 73 #[.string s, .func (.func 88) #[] #[]] w fun e w' => e = .returned (.bool (M9 Eu s s.size 0 && !(s.data.toList == []))) ∧ Below w.heap.size w w' := by
  go_enter Tryz.func73, Tryz.ntmps73
  go_wp2
  go_loopw [] (fun wr => ∃ pos fuel : Nat, wr.heap[w.heap.size]? = some (.stringIter s pos) ∧ Below w.heap.size w wr ∧ Hid (M9 Eu s fuel pos = M9 Eu s s.size 0) ∧ s.size ≤ pos + fuel) (fun wr => s.size - wr.iterPos w.heap.size)
  case atStart => exact ⟨0, s.size, World.iter_heap w s 0, (Below.refl _ _).alloc (Nat.le_refl _) _, rfl, by omega⟩
  case round =>
    obtain ⟨pos, fuel, hit, hbw, HS, hb⟩ := hrel
    have hpos0 := iterPos_of hit
    by_cases hp : pos < s.size
    · have hnx : ∀ ty, (Instr.next (.pointer (some ⟨w.heap.size, 0, none⟩)) true ty).run Tryz.prog wr = _ := fun ty => Lib.run_next_any_at wr w.heap.size s pos ty hit hp
      have hwd := width_pos s pos hp
      obtain ⟨fuel, rfl⟩ : ∃ f', fuel = f' + 1 := ⟨fuel - 1, by omega⟩
      have hit2 := Lib.iterAt_heap wr w.heap.size s pos (pos + (Utf8.decode s pos).2) hit
      have hbw2 := Lib.below_iterAt hbw (k := w.heap.size) (Nat.le_refl _) s (pos + (Utf8.decode s pos).2)
      obtain ⟨W1, hW1⟩ : ∃ W1, W1 = wr.iterAt w.heap.size s (pos + (Utf8.decode s pos).2) := ⟨_, rfl⟩
      rw [← hW1] at hnx hit2 hbw2
      have hlt : w.heap.size < W1.heap.size := lt_of_block hit2
      clear hW1 hit hbw
      by_cases h0 : pos = 0
      · subst h0
        cases hr : Eu ((Utf8.decode s 0).1 : Int) with
        | false =>
          go_wp2_with (go_at_call 88; refine (calls_isGreat _ _).mono ?_; rintro e W2 ⟨rfl, hb2⟩; simp only [hr])
          go_ret
          refine ⟨?_, hbw2.trans (Rf hb2 (by first | omega | (simp; omega) | exact hlt | exact Nat.le_of_lt hlt))⟩
          have e0 : M9 Eu s s.size 0 = false := by rw [← HS.out]; simp [M9, hp, hr]
          rw [e0, Bool.false_and]
          rfl
        | true =>
          go_wp2_with (go_at_call 88; refine (calls_isGreat _ _).mono ?_; rintro e W2 ⟨rfl, hb2⟩; simp only [hr])
          have hit3 : W2.heap[w.heap.size]? = some (.stringIter s (0 + (Utf8.decode s 0).2)) := (hb2.block w.heap.size (by first | omega | (simp; omega) | exact hlt | exact Nat.le_of_lt hlt)).trans hit2
          refine ⟨⟨_, fuel, hit3, hbw2.trans (Rf hb2 (by first | omega | (simp; omega) | exact hlt | exact Nat.le_of_lt hlt)), ?_, by omega⟩, ?_⟩
          · show _ = _
            rw [← HS.out]
            simp [M9,hp,hr]
          · rw [iterPos_of hit3, hpos0]
            omega
      · have hpb : ((pos : Int) == 0) = false := by rw [beq_eq_false_iff_ne]; omega
        have hpg : (decide ((pos : Int) > 0)) = true := by rw [decide_eq_true_eq]; omega
        have hpn : (pos == 0) = false := by rw [beq_eq_false_iff_ne]; exact h0
        cases hr : Fs ((Utf8.decode s pos).1 : Int) with
        | false =>
          go_wp2_with (go_at_call 93; refine (Ef _ _).mono ?_; rintro e W2 ⟨rfl, hb2⟩; simp only [hr])
          go_ret
          refine ⟨?_, hbw2.trans (Rf hb2 (by first | omega | (simp; omega) | exact hlt | exact Nat.le_of_lt hlt))⟩
          have e0 : M9 Eu s s.size 0 = false := by rw [← HS.out]; simp [M9, hp, hr, hpn]
          rw [e0, Bool.false_and]
          rfl
        | true =>
          go_wp2_with (go_at_call 93; refine (Ef _ _).mono ?_; rintro e W2 ⟨rfl, hb2⟩; simp only [hr])
          have hit3 : W2.heap[w.heap.size]? = some (.stringIter s (pos + (Utf8.decode s pos).2)) := (hb2.block w.heap.size (by first | omega | (simp; omega) | exact hlt | exact Nat.le_of_lt hlt)).trans hit2
          refine ⟨⟨_, fuel, hit3, hbw2.trans (Rf hb2 (by first | omega | (simp; omega) | exact hlt | exact Nat.le_of_lt hlt)), ?_, by omega⟩, ?_⟩
          · show _ = _
            rw [← HS.out]
            simp [M9,hp,hr,hpn]
          · rw [iterPos_of hit3, hpos0]
            omega
    · have hnx : ∀ ty, (Instr.next (.pointer (some ⟨w.heap.size, 0, none⟩)) true ty).run Tryz.prog wr = _ := fun ty => Lib.run_next_end_at wr w.heap.size s pos ty hit hp
      go_wp2
      go_ret
      refine ⟨?_, hbw⟩
      rw [← HS.out, fitsGo_end hp, Bool.true_and]
      congr 2
      rw [ByteArray.toList_mk]
      cases s.data.toList <;> rfl
end Go.Am.Ty
set_option linter.unusedSimpArgs false
set_option linter.unusedVariables false
set_option maxHeartbeats 1000000
namespace Go.Am.Ty
open Go.Proofs Go.RowKit
open Enc (enc dec)
theorem get_at (s : ByteArray) (pos : Nat) (h : pos < s.size) : s.get! (pos + 0) = s.data.toList[pos]'(by simpa using h) := by
  show s.get! pos = _
  simp [ByteArray.get!,getElem!_pos,h]
theorem decode_low {s : ByteArray} {pos : Nat} (h : pos < s.size) (hc : (s.data.toList[pos]'(by simpa using h)).toNat < 128) : Utf8.decode s pos = ((s.data.toList[pos]'(by simpa using h)).toNat, 1) := by
  simp only [Utf8.decode, get_at s pos h, if_pos hc]
theorem decode_high {s : ByteArray} {pos : Nat} (h : pos < s.size) (hc : ¬ (s.data.toList[pos]'(by simpa using h)).toNat < 128) : 128 ≤ (Utf8.decode s pos).1 := by
  simp only [Utf8.decode, get_at s pos h, if_neg hc, Utf8.runeError]
  repeat' split
  all_goals simp_all
  all_goals omega
theorem behindR_low {c : UInt8} (h : c.toNat < 128) : Fs (c.toNat : Int) = behind c := by
  have : ∀ c : Fin 256, Fs ((c.val : Nat) : Int) = behind (UInt8.ofNat c.val) := by decide +kernel
  have := this ⟨c.toNat, c.toNat_lt⟩
  simpa using this
theorem behindR_high {r : Nat} (h : 128 ≤ r) : Fs (r : Int) = false := by
  simp [Fs,Em,Eu,leB]
  omega
theorem behind_high {c : UInt8} (h : ¬ c.toNat < 128) : behind c = false := by
  have : ∀ c : Fin 256, 128 ≤ c.val → behind (UInt8.ofNat c.val) = false := by decide +kernel
  have := this ⟨c.toNat, c.toNat_lt⟩ (by simp; omega)
  simpa using this
theorem fitsGo_behind {p : Int → Bool} {s : ByteArray} : ∀ {n pos : Nat}, 0 < pos → s.size ≤ pos + n → M9 p s n pos = Dx (s.data.toList.drop pos)
  | 0, pos, h0, h => by
    rw [List.drop_eq_nil_of_le (by simpa using h)]
    rfl
  | n + 1, pos, h0, h => by
    by_cases hp : pos < s.size
    · have hl : pos < s.data.toList.length := by simpa using hp
      rw [M9, if_pos hp, List.drop_eq_getElem_cons hl]
      have hz : (pos == 0) = false := by rw [beq_eq_false_iff_ne]; omega
      rw [hz, cond_false]
      unfold Dx
      rw [List.all_cons]
      by_cases hc : (s.data.toList[pos]'hl).toNat < 128
      · rw [decode_low hp hc, behindR_low hc]
        simp only
        rw [fitsGo_behind (by omega) (by omega)]
        rfl
      · rw [behindR_high (decode_high hp hc), behind_high hc, Bool.false_and, Bool.false_and]
    · rw [fitsGo_end hp, List.drop_eq_nil_of_le (by simpa using hp)]
      rfl
theorem fits_is {p : Int → Bool} {q : UInt8 → Bool} (h1 : ∀ c : UInt8, c.toNat < 128 → p (c.toNat : Int) = q c) (h2 : ∀ r : Nat, 128 ≤ r → p (r : Int) = false) (h3 : ∀ c : UInt8, ¬ c.toNat < 128 → q c = false) (s : ByteArray) :
    (M9 p s s.size 0 && !(s.data.toList == [])) = match s.data.toList with
    | [] => false
    | c :: r => q c && Dx r := by
  have hsz : s.size = s.data.toList.length := by simp
  obtain ⟨l, hl⟩ : ∃ l, s.data.toList = l := ⟨_, rfl⟩
  cases l with
  | nil => rw [hl]; simp
  | cons c r =>
    have hn : s.size = r.length + 1 := by rw [hsz, hl]; simp
    have h0 : 0 < s.size := by omega
    have hc : s.data.toList[0]'(by rw [← hsz]; exact h0) = c := by simp [hl]
    have hd : s.data.toList.drop 1 = r := by rw [hl]; rfl
    rw [show M9 p s s.size 0 = M9 p s (r.length + 1) 0 by rw [hn], M9, if_pos h0, hl]
    simp only [beq_self_eq_true, cond_true]
    by_cases h : c.toNat < 128
    · rw [decode_low h0 (by rw [hc]; exact h), hc, h1 c h]
      simp only [Nat.zero_add]
      rw [fitsGo_behind (by omega) (by omega), hd]
      simp
    · rw [h2 _ (decode_high h0 (by rw [hc]; exact h)), h3 c h]
      simp
theorem good_of_calls {f : FuncId} {con : Con} (he : Ob Tryz.prog f)
    (h : ∀ cvs, con.pre cvs → ∃ (xs : List D) (b : Bool), cvs = xs.map .d ∧ con.fn cvs = .d (.bool b) ∧ ∀ (F : Fix) (vs : List Value) (w : World), Lm F (xs.map .d) vs → Calls Tryz.prog f vs.toArray w fun e w' => e = .returned (.bool b) ∧ Below w.heap.size w w') : Gj Tryz.prog (f, con) := by
  refine ⟨he, ?_⟩
  intro m w cvs vs hpre hcv hnd hnew
  obtain ⟨xs, b, rfl, hfn, hc⟩ := h cvs hpre
  refine (hc _ vs w hcv).mono ?_
  rintro e w' ⟨rfl, hb⟩
  refine ⟨_, m, rfl, ⟨hb.os, hb.tape, hb.output, hb.size, fun k hk _ => hb.block k hk⟩, fun _ _ _ => rfl, fun k hk => hnew k (by have := hb.size; omega), ?_⟩
  change Res _ _ _ (con.fn (xs.map .d)) _
  rw [hfn]
  simp only [Res, Lm, CVR, R]
  refine ⟨⟨_, [], rfl, rfl, rfl⟩, fun k hk => ?_⟩
  have : K8 ([D.bool b].map .d) [Value.bool b] = [] := ownsOf_d _ _
  change k ∈ K8 ([D.bool b].map .d) [Value.bool b] at hk
  rw [this] at hk
  cases hk
theorem within_q (a b c : UInt8) : Ax c a b = (leB (a.toNat : Int) (c.toNat : Int) && leB (c.toNat : Int) (b.toNat : Int)) := by rw [le_u8, le_u8]; rfl
def con_fitsS : Con := Bg (fun (_ : List UInt8) (_ : Fn0 74) => True) (fun s _ => D2 s)
theorem good_fitsS : Gj Tryz.prog (73, con_fitsS) := by
  refine good_of_calls (U7 Tryz.func73 (by kernel_rfl) rfl) fun cvs hpre => ?_
  obtain ⟨s, f, rfl, -⟩ := Gi hpre
  refine ⟨[.str s, .clo 74 []], D2 s, rfl, rfl, fun F vs w hcv => ?_⟩
  simp only [List.map, Lm, CVR, R, Rs] at hcv
  obtain ⟨v1, r1, rfl, rfl, v2, r2, rfl, ⟨cs, rfl, rfl⟩, rfl⟩ := hcv
  have h := fits_is (p := Em) (q := fun c => Ax c 97 122) (fun c _ => (within_q 97 122 c).symm) (fun r hr => by simp [Em, leB]; omega) (fun c hc => by rw [within_q]; simp [leB]; omega) ⟨s.toArray⟩
  refine (fits_small ⟨s.toArray⟩ w).mono ?_
  rintro e w' ⟨rfl, hb⟩
  refine ⟨?_, hb⟩
  rw [h]
  cases s <;> rfl
def con_fitsT : Con := Bg (fun (_ : List UInt8) (_ : Fn0 88) => True) (fun s _ => isTag s)
theorem good_fitsT : Gj Tryz.prog (73, con_fitsT) := by
  refine good_of_calls (U7 Tryz.func73 (by kernel_rfl) rfl) fun cvs hpre => ?_
  obtain ⟨s, f, rfl, -⟩ := Gi hpre
  refine ⟨[.str s, .clo 88 []], isTag s, rfl, rfl, fun F vs w hcv => ?_⟩
  simp only [List.map, Lm, CVR, R, Rs] at hcv
  obtain ⟨v1, r1, rfl, rfl, v2, r2, rfl, ⟨cs, rfl, rfl⟩, rfl⟩ := hcv
  have h := fits_is (p := Eu) (q := fun c => Ax c 65 90) (fun c _ => (within_q 65 90 c).symm) (fun r hr => by simp [Eu, leB]; omega) (fun c hc => by rw [within_q]; simp [leB]; omega) ⟨s.toArray⟩
  refine (fits_great ⟨s.toArray⟩ w).mono ?_
  rintro e w' ⟨rfl, hb⟩
  refine ⟨?_, hb⟩
  rw [h]
  cases s <;> rfl
def Ma : Con := Ss (fun (_ : List UInt8) => True) (fun s => D2 s)
noncomputable def Oz : Ctx := ⟨tab, lkC [(73, con_fitsS)], 60, lkB [], [], false⟩
theorem ctx_IsWordG_c : Oz.Γ = lkC [(73, con_fitsS)] := rfl
theorem ctx_IsWordG_d : Oz.dp = 60 := rfl
theorem ctx_IsWordG_b : Oz.Δ = lkB [] := rfl
theorem good_IsWordG : Gj Tryz.prog (52, Ma) := by
  refine ⟨U7 Tryz.func52 (by kernel_rfl) rfl, ?_⟩
  have K : Ky Tryz.prog Oz := Kd K6 Ki (by
    intro p hp
    simp only [List.mem_cons, List.not_mem_nil, or_false] at hp
    rcases hp with rfl
    · exact good_fitsS) (by simp)
  obtain ⟨c, hc⟩ : ∃ c, Tryz.f52.body = some c := ⟨_, rfl⟩
  refine Ke K Tryz.func52 hc [.tmp 2] rfl 5 rfl (fun cvs hpre => ?_)
  change Ma.pre cvs at hpre
  unfold Ma at hpre
  obtain ⟨s, rfl, -⟩ := Ha hpre
  simp only [Tryz.f52, Option.some.injEq] at hc
  subst hc
  (sym =>
   simp [isE_Fn0,ctx_IsWordG_c,ctx_IsWordG_d,ctx_IsWordG_b,Ma.eq_def,con_fitsS.eq_def,Za,Zb,Zc,Ze,Zf,Z9,Qe,Qf,Qn,Qo,Qp,Qq,Qs,Q1,Q2,Q4,Q8,Jf,Jj,Jk,Jl,Jw,J3,J4,Xf,Xu,Xv,X4,X6,Wb,Wc,Wf,Wh,Wt,Wu,Wv,Ww,Wx,Wy,Wz,W0,W6,W7,Yy,Yz,Y7,Y8,Y9,Va,Vb,Vc,Vi,Vn,V5,Un,Kq])
def Ls : Con := Ss (fun (_ : List UInt8) => True) (fun s => isTag s)
noncomputable def ctx_IsTagG : Ctx := ⟨tab, lkC [(73, con_fitsT)], 60, lkB [], [], false⟩
theorem ctx_IsTagG_c : ctx_IsTagG.Γ = lkC [(73, con_fitsT)] := rfl
theorem ctx_IsTagG_d : ctx_IsTagG.dp = 60 := rfl
theorem ctx_IsTagG_b : ctx_IsTagG.Δ = lkB [] := rfl
theorem good_IsTagG : Gj Tryz.prog (70, Ls) := by
  refine ⟨U7 Tryz.func70 (by kernel_rfl) rfl, ?_⟩
  have K : Ky Tryz.prog ctx_IsTagG := Kd K6 Ki (by
    intro p hp
    simp only [List.mem_cons, List.not_mem_nil, or_false] at hp
    rcases hp with rfl
    · exact good_fitsT) (by simp)
  obtain ⟨c, hc⟩ : ∃ c, Tryz.f70.body = some c := ⟨_, rfl⟩
  refine Ke K Tryz.func70 hc [.tmp 2] rfl 5 rfl (fun cvs hpre => ?_)
  change Ls.pre cvs at hpre
  unfold Ls at hpre
  obtain ⟨s, rfl, -⟩ := Ha hpre
  simp only [Tryz.f70, Option.some.injEq] at hc
  subst hc
  (sym =>
   simp [isE_Fn0,ctx_IsTagG_c,ctx_IsTagG_d,ctx_IsTagG_b,Ls.eq_def,con_fitsT.eq_def,Za,Zb,Zc,Ze,Zf,Z9,Qe,Qf,Qn,Qo,Qp,Qq,Qs,Q1,Q2,Q4,Q8,Jf,Jj,Jk,Jl,Jw,J3,J4,Xf,Xu,Xv,X4,X6,Wb,Wc,Wf,Wh,Wt,Wu,Wv,Ww,Wx,Wy,Wz,W0,W6,W7,Yy,Yz,Y7,Y8,Y9,Va,Vb,Vc,Vi,Vn,V5,Un,Kq])
end Go.Am.Ty
set_option linter.unusedSimpArgs false
set_option linter.unusedVariables false
set_option maxHeartbeats 1000000
namespace Go.Am.Ty
open Go.Proofs Go.Rose Go.Rose.Rose
open Enc (enc dec)
def Nf : Con := Ss (fun (_ : Node) => True) (fun n => B5 n)
noncomputable def ctx_isNodeT : Ctx := ⟨tab, lkC [], 60, lkB [], [], false⟩
theorem ctx_isNodeT_t : ctx_isNodeT.τ = tab := rfl
theorem ctx_isNodeT_d : ctx_isNodeT.dp = 60 := rfl
set_option maxRecDepth 100000 in
theorem good_isNodeT : Gj Tryz.prog (100, Nf) := by
  refine ⟨U7 Tryz.func100 (by kernel_rfl) rfl, ?_⟩
  have K : Ky Tryz.prog ctx_isNodeT := Kd K6 Ki (by simp) (by simp)
  obtain ⟨c, hc⟩ : ∃ c, Tryz.f100.body = some c := ⟨_, rfl⟩
  refine Ke K Tryz.func100 hc [.tmp 2] rfl 45 rfl (fun cvs hpre => ?_)
  change Nf.pre cvs at hpre
  unfold Nf at hpre
  obtain ⟨n, rfl, -⟩ := Ha hpre
  simp only [Tryz.f100, Option.some.injEq] at hc
  subst hc
  refine Kw 2 (of_decide_eq_true (by kernel_rfl)) ?_
  (sym =>
   simp [Uu,Us,Uv,Ur,szN,Ut,ctx_isNodeT_t,ctx_isNodeT_d,Nf.eq_def,Zb,Zc,Zd,Ze,Zf,Zg,Zo,Zp,Zq,Zs,Zt,Zu,Zv,Zx,Qb,Qd,Ql,Qm,Qn,Qo,Qp,Qq,Qs,Q1,Q2,Q4,Q8,Jh,Ji,Jk,Jw,J3,J4,J5,J6,J7,J8,J9,Xa,Xb,Xc,Xf,Xn,Xo,Xs,Xu,X3,X4,X6,X7,X8,Wb,Wc,Wf,Wh,Wi,Wj,Wt,Wu,Wv,Ww,Wy,W0,W4,W5,W6,W7,W8,W9,Ya,Yb,Ye,Yi,Yq,Yy,Y7,Y8,Y9,Va,Vb,Vc,Vd,Ve,Vf,Vg,Vt,V4,V5,Uk,Ul,Um,Un,U8,U3]
   tactic =>
    try simp only [U1] at *
    try simp only [nc2] at *
    try simp (maxSteps := 4000000) only [Uu,Us,Uv,Ur,szN,Ut,U9]
    unfold B5
    repeat' (first | with_reducible assumption | with_reducible refine And.intro ?_ ?_ | intro _ | omega | (rw [U0]; omega))
    all_goals
      rw [Bool.eq_iff_iff]
      repeat' split
      all_goals first
        | (exfalso; omega)
        | (simp only [leB, ltB, Bool.and_eq_true, decide_eq_true_eq, beq_iff_eq, Bool.false_eq_true]; omega)
        | (simp only [leB, ltB, Bool.and_eq_true, decide_eq_true_eq, beq_iff_eq, Bool.false_eq_true, false_iff]; omega)
        | (simp only [leB, ltB, Bool.and_eq_true, decide_eq_true_eq, beq_iff_eq, Bool.false_eq_true]; done))
def labB (k : Int) (s : List UInt8) : Bool := if k = 6 then D2 s else if k = 7 then isTag s else s == []
def Ht : Con := Bg (fun (_ : Int) (_ : List UInt8) => True) labB
noncomputable def D7 : Ctx := ⟨tab, lkC [(52, Ma), (70, Ls)], 60, lkB [], [], false⟩
theorem ctx_isLabelT_t : D7.τ = tab := rfl
theorem ctx_isLabelT_c : D7.Γ = lkC [(52, Ma), (70, Ls)] := rfl
theorem ctx_isLabelT_d : D7.dp = 60 := rfl
theorem ctx_isLabelT_b : D7.Δ = lkB [] := rfl
theorem good_isLabelT : Gj Tryz.prog (102, Ht) := by
  refine ⟨U7 Tryz.func102 (by kernel_rfl) rfl, ?_⟩
  have K : Ky Tryz.prog D7 := Kd K6 Ki (by
    intro p hp
    simp only [List.mem_cons, List.not_mem_nil, or_false] at hp
    rcases hp with rfl | rfl
    · exact good_IsWordG
    · exact good_IsTagG) (by simp)
  obtain ⟨c, hc⟩ : ∃ c, Tryz.f102.body = some c := ⟨_, rfl⟩
  refine Ke K Tryz.func102 hc [.tmp 4] rfl 16 rfl (fun cvs hpre => ?_)
  change Ht.pre cvs at hpre
  unfold Ht at hpre
  obtain ⟨k, s, rfl, -⟩ := Gi hpre
  simp only [Tryz.f102, Option.some.injEq] at hc
  subst hc
  (sym =>
   simp [Uu,Us,Uv,Ur,szN,Ut,ctx_isLabelT_t,ctx_isLabelT_c,ctx_isLabelT_d,ctx_isLabelT_b,Ls.eq_def,Ma.eq_def,Ht.eq_def,Za,Zb,Zc,Ze,Zf,Zg,Z9,Qb,Qd,Qe,Qf,Qn,Qo,Qp,Qq,Qs,Q1,Q2,Q4,Q8,Jf,Jj,Jk,Jl,Jw,J3,J4,Xf,Xu,Xv,X3,X4,X6,X7,X8,Wb,Wc,Wf,Wh,Wi,Wt,Wu,Wv,Ww,Wx,Wy,Wz,W0,W3,W6,W7,Ye,Yg,Yi,Yk,Yx,Yy,Yz,Y7,Y8,Y9,Va,Vb,Vc,Vh,Vi,Vn,V4,V5,V6,V8,Um,Un,U8,Kq]
   tactic =>
    try simp only [U1] at *
    try simp only [nc2] at *
    try simp (maxSteps := 4000000) only [Uu,Us,Uv,Ur,szN,Ut,U9]
    unfold labB
    repeat' (first | with_reducible assumption | with_reducible refine And.intro ?_ ?_ | intro _ | omega | (rw [U0]; omega))
    all_goals simp_all)
end Go.Am.Ty
set_option linter.unusedSimpArgs false
set_option linter.unusedVariables false
set_option maxHeartbeats 1000000
namespace Go.Am.Ty
open Go.Proofs Go.Rose Go.Rose.Rose
open Enc (enc dec)
def Ac (p : Node) (k : Nat) (x : Node) (last : List UInt8) : Bool :=
  cond (x.kind == 9) (cond (!Ml p) true (cond (ltB (k : Int) (p.n - 1)) true (!(x.name == []))))
    (cond (!labB p.kind x.name) true (cond (Ml p) (Op.bytesLess x.name last || x.name == last) false))
def kidsR (t : List Node) (tr : Nat → Bool × Nat) (p : Node) : Nat → Nat → List UInt8 → Nat → Bool × Nat
  | 0, _, _, at_ => (true, at_)
  | m + 1, k, last, at_ => cond (leB (t.length : Int) at_) (false, at_)
      (cond (Ac p k (t.getD at_ n0) last) (false, at_)
        (cond (tr at_).1 (kidsR t tr p m (k + 1) (t.getD at_ n0).name (tr at_).2) (false, (tr at_).2)))
def La (t : List Node) : Nat → Nat → Bool × Nat
  | 0, at_ => (false, at_)
  | f + 1, at_ => cond (leB (t.length : Int) at_) (false, at_)
      (cond (B5 (t.getD at_ n0)) (kidsR t (La t f) (t.getD at_ n0) (ar (t.getD at_ n0)) 0 [] (at_ + 1)) (false, at_))
structure TX where
  t : List Node
  i : Nat
  f : Nat
  d : Int
def P7 (t : List Node) (i : Nat) : List Obj := [.box false [.d (.int .i64 i)], .box false [.d (.list 3 (t.map enc))], .box false [.clo 99 [.ref 90000 0, .ref 90001 0, .ref 90002 0]]]
theorem Hk {t : List Node} {i : Nat} : P7 t i = [.box false [.d (.int .i64 i)], .box false [.d (.list 3 (t.map enc))], .box false [.clo 99 [.ref 90000 0, .ref 90001 0, .ref 90002 0]]] := rfl
def Nj (n : Nat) : BCon where
  X := TX
  ok x := x.t.length ≤ 1000000 ∧ Cz x.t ∧ x.f ≤ 100 ∧ x.d = 101 - x.f ∧ x.f < n
  args x := [.d (.int .i64 x.d), .ref 90000 0, .ref 90001 0, .ref 90002 0]
  objs x := P7 x.t x.i
  res x := .bool (La x.t x.f x.i).1
  post x := P7 x.t (La x.t x.f x.i).2
theorem bcon_treeT_zero : ∀ x, ¬ (Nj 0).ok x := by
  rintro x ⟨_, _, _, _, h⟩
  omega
theorem treeT_post {n : Nat} {t : List Node} {i f : Nat} {d : Int} : (Nj n).post ⟨t, i, f, d⟩ = P7 t (La t f i).2 := rfl
theorem treeT_res {n : Nat} {t : List Node} {i f : Nat} {d : Int} : (Nj n).res ⟨t, i, f, d⟩ = .bool (La t f i).1 := rfl
theorem numb_row {p : Node} (h : B5 p = true) (hr : Ml p = true) : 0 ≤ p.n ∧ p.n ≤ 50 := by
  unfold Ml at hr
  rw [Bool.or_eq_true, beq_iff_eq, beq_iff_eq] at hr
  unfold B5 at h
  rw [if_neg (by omega), if_neg (by omega)] at h
  split at h
  · simp only [Bool.and_eq_true, decide_eq_true_eq] at h
    exact h
  · rw [if_pos (by omega)] at h
    simp only [Bool.and_eq_true, decide_eq_true_eq] at h
    omega
theorem M3 : canon 3 [90000, 90001, 90002] := by
  intro j hj
  match j, hj with
  | 0, _ => rfl
  | 1, _ => rfl
  | 2, _ => rfl
noncomputable def Dh (n : Nat) : Ctx := ⟨tab, lkC [(96, Hr), (101, H6), (100, Nf), (102, Ht)], 60, lkB [(99, (Nj n))], [], false⟩
theorem Gw (n : Nat) : (Dh n).τ = tab := rfl
theorem Pq (n : Nat) : (Dh n).Γ = lkC [(96, Hr), (101, H6), (100, Nf), (102, Ht)] := rfl
theorem Hg (n : Nat) : (Dh n).dp = 60 := rfl
theorem Pr (n : Nat) : (Dh n).Δ = lkB [(99, (Nj n))] := rfl
theorem Br (n : Nat) : (Dh n).wr = false := rfl
set_option maxRecDepth 100000 in
theorem stepb_treeT (n : Nat) (ih : GoodB Tryz.prog (99, Nj n)) : GoodB Tryz.prog (99, (Nj (n + 1))) := by
  refine ⟨U7 Tryz.func99 (by kernel_rfl) rfl, ?_⟩
  have K : Ky Tryz.prog (Dh n) := Kd K6 Ki (by
    intro p hp
    simp only [List.mem_cons, List.not_mem_nil, or_false] at hp
    rcases hp with rfl | rfl | rfl | rfl
    · exact good_manyT
    · exact good_isRowT
    · exact good_isNodeT
    · exact good_isLabelT) (by
    intro p hp
    simp only [List.mem_cons, List.not_mem_nil, or_false] at hp
    rcases hp with rfl
    · exact ih)
  obtain ⟨c, hc⟩ : ∃ c, Tryz.f99.body = some c := ⟨_, rfl⟩
  refine fn_soundB K Tryz.func99 hc [.tmp 5] rfl 89 rfl (fun x hok => ?_)
  obtain ⟨t, i, f, d⟩ := x
  obtain ⟨ht, hN, hf, hd, hn⟩ := hok
  simp only at ht hN hf hd hn
  refine ⟨?_, ?_, ?_, ?_, ?_⟩
  · show Tied [.d (.int .i64 d), .ref 90000 0, .ref 90001 0, .ref 90002 0] (P7 t i)
    rw [Hk]
    simp [Tied,tiedAll,Obj.tied,P1,keptAll,AV.kept,Hs,Ie,lk]
  · show P1 (P7 t i)
    rw [Hk]
    simp [P1]
  · show Tied [] (P7 t (La t f i).2)
    rw [Hk]
    simp [Tied,tiedAll,Obj.tied,P1,keptAll,AV.kept,Hs,Ie,lk]
  · show (P7 t i).length ≤ (P7 t (La t f i).2).length
    rw [Hk, Hk]
    simp
  show awp (Dh n) c (PostB _ _ (P7 t i).length (.bool (La t f i).1) (P7 t (La t f i).2)) ⟨[.d (.int .i64 d), .ref 90000 0, .ref 90001 0, .ref 90002 0] ++ deads 85, Hs (P7 t i)⟩
  rw [Hk, Hk]
  simp only [Tryz.f99, Option.some.injEq] at hc
  subst hc
  refine Kw 5 (of_decide_eq_true (by kernel_rfl)) ?_
  cases f with
  | zero =>
    have h0 : La t 0 i = (false, i) := rfl
    rw [h0]
    have hdb : ltB 100 d = true := by rw [Pv]; omega
    rcases Es t.length i with ⟨hle, hleb⟩ | ⟨hle, hleb⟩
    · (sym =>
       simp [hleb,Uu,Us,Uv,Ur,szN,Ut,Gw,Hg,Zb,Zc,Zd,Ze,Zf,Zo,Zp,Zq,Zt,Zv,Z6,Qb,Qd,Qo,Qq,Qs,Qv,Qw,Qx,Q1,Q2,Q3,Q4,Jh,Jk,Jm,Jp,J3,J4,J5,J6,J8,J9,Xb,Xc,Xf,Xl,Xm,Xn,Xo,X4,X6,X7,Wb,Wc,Wf,Wh,Wi,Wj,Wt,Wu,Wv,Ww,W6,W7,W8,W9,Ya,Yb,Ye,Yh,Yi,Yl,Y7,Y8,Vb,Vc,Vd,Ve,Vf,Vg,Vt,V5,Uk,Um,Un,Up,U8,Ku,Kq,U4,U3,Hi]
       tactic =>
        try simp only [U1] at *
        try simp only [nc2] at *
        try simp (maxSteps := 4000000) only [hleb,Uu,Us,Uv,Ur,szN,Ut,U9]
        repeat' (first | with_reducible assumption | with_reducible refine And.intro ?_ ?_ | intro _ | omega | (rw [U0]; omega))
        refine ⟨[90000, 90001, 90002], by simp, rfl, M3, ?_⟩
        simp [K2,lk,rnO,rnA,rnAs,rk])
    · (sym =>
       simp [hleb,hdb,Uu,Us,Uv,Ur,szN,Ut,Gw,Hg,Zb,Zc,Zd,Ze,Zf,Zo,Zp,Zq,Zt,Zv,Z6,Qb,Qd,Qo,Qq,Qs,Qv,Qw,Qx,Q1,Q2,Q3,Q4,Jh,Jk,Jm,Jp,J3,J4,J5,J6,J8,J9,Xb,Xc,Xf,Xl,Xm,Xn,Xo,X4,X6,X7,Wb,Wc,Wf,Wh,Wi,Wj,Wt,Wu,Wv,Ww,W6,W7,W8,W9,Ya,Yb,Ye,Yh,Yi,Yl,Y7,Y8,Vb,Vc,Vd,Ve,Vf,Vg,Vt,V4,V5,Uk,Ul,Um,Un,Up,U8,Ku,Kq,U4,U3,Hi]
       tactic =>
        try simp only [U1] at *
        try simp only [nc2] at *
        try simp (maxSteps := 4000000) only [hleb,hdb,Uu,Us,Uv,Ur,szN,Ut,U9]
        repeat' (first | with_reducible assumption | with_reducible refine And.intro ?_ ?_ | intro _ | omega | (rw [U0]; omega))
        refine ⟨[90000, 90001, 90002], by simp, rfl, M3, ?_⟩
        simp [K2,lk,rnO,rnA,rnAs,rk])
  | succ f =>
    have hdb : ltB 100 d = false := by rw [Nd]; omega
    have hfold : La t (f + 1) i = cond (leB (t.length : Int) i) (false, i)
      (cond (B5 (t.getD i n0)) (kidsR t (La t f) (t.getD i n0) (ar (t.getD i n0)) 0 [] (i + 1)) (false, i)) := rfl
    rcases Es t.length i with ⟨hle, hleb⟩ | ⟨hle, hleb⟩
    · rw [hleb, cond_true] at hfold
      rw [hfold]
      (sym =>
       simp [hleb,Uu,Us,Uv,Ur,szN,Ut,Gw,Hg,Zb,Zc,Zd,Ze,Zf,Zo,Zp,Zq,Zt,Zv,Z6,Qb,Qd,Qo,Qq,Qs,Qv,Qw,Qx,Q1,Q2,Q3,Q4,Jh,Jk,Jm,Jp,J3,J4,J5,J6,J8,J9,Xb,Xc,Xf,Xl,Xm,Xn,Xo,X4,X6,X7,Wb,Wc,Wf,Wh,Wi,Wj,Wt,Wu,Wv,Ww,W6,W7,W8,W9,Ya,Yb,Ye,Yh,Yi,Yl,Y7,Y8,Vb,Vc,Vd,Ve,Vf,Vg,Vt,V5,Uk,Um,Un,Up,U8,Ku,Kq,U4,U3,Hi]
       tactic =>
        try simp only [U1] at *
        try simp only [nc2] at *
        try simp (maxSteps := 4000000) only [hleb,Uu,Us,Uv,Ur,szN,Ut,U9]
        repeat' (first | with_reducible assumption | with_reducible refine And.intro ?_ ?_ | intro _ | omega | (rw [U0]; omega))
        refine ⟨[90000, 90001, 90002], by simp, rfl, M3, ?_⟩
        simp [K2,lk,rnO,rnA,rnAs,rk])
    rw [hleb, cond_false] at hfold
    have hil : i < t.length := by omega
    have hel := Kf n0 hil
    obtain ⟨p, hp⟩ : ∃ p, t.getD i n0 = p := ⟨_, rfl⟩
    rw [hp] at hel hfold
    cases hnb : B5 p with
    | false =>
      rw [hnb, cond_false] at hfold
      rw [hfold]
      (sym =>
       simp [hleb,hdb,hel,hnb,Uu,Us,Uv,Ur,szN,Ut,Gw,Pq,Hg,Pr,Ht.eq_def,Nf.eq_def,H6.eq_def,Hr.eq_def,Zb,Zc,Zd,Ze,Zf,Zo,Zp,Zq,Zt,Zv,Zy,Z6,Z9,Qb,Qc,Qd,Qe,Qf,Qo,Qq,Qs,Qv,Qw,Qx,Q1,Q2,Q3,Q4,Q8,Jf,Jh,Jj,Jk,Jl,Jm,Jp,J3,J4,J5,J6,J8,J9,Xb,Xc,Xf,Xl,Xm,Xn,Xo,Xp,Xu,Xv,X4,X6,X7,Wb,Wc,Wf,Wh,Wi,Wj,Wt,Wu,Wv,Ww,Wx,Wz,W0,W6,W7,W8,W9,Ya,Yb,Ye,Yf,Yh,Yi,Yj,Yl,Ym,Yy,Y7,Y8,Vb,Vc,Vd,Ve,Vf,Vg,Vq,Vr,Vt,V4,V5,Uk,Ul,Um,Un,Uo,Up,U8,Ku,Kq,U4,U3,Hi]
       tactic =>
        try simp only [U1] at *
        try simp only [nc2] at *
        try simp (maxSteps := 4000000) only [hleb,hdb,hel,hnb,Uu,Us,Uv,Ur,szN,Ut,U9]
        repeat' (first | with_reducible assumption | with_reducible refine And.intro ?_ ?_ | intro _ | omega | (rw [U0]; omega))
        refine ⟨[90000, 90001, 90002], by simp, rfl, M3, ?_⟩
        simp [K2,lk,rnO,rnA,rnAs,rk])
    | true =>
      have har : ar p ≤ 50 := by have := (numb3_tame hnb).2; rw [D1 hnb] at this; omega
      rw [hnb, cond_true] at hfold
      rw [hfold]
      obtain ⟨r, hr⟩ : ∃ r, kidsR t (La t f) p (ar p) 0 [] (i + 1) = r := ⟨_, rfl⟩
      rw [hr]
      obtain ⟨r1, r2⟩ := r
      simp only
      (sym =>
       simp [hleb,hdb,hel,hnb,Uu,Us,Uv,Ur,szN,Ut,Gw,Pq,Hg,Pr,Br,Ht.eq_def,Nf.eq_def,H6.eq_def,Hr.eq_def,Zb,Zc,Zd,Ze,Zf,Zo,Zp,Zq,Zt,Zu,Zv,Zw,Zy,Z6,Z9,Qb,Qc,Qd,Qe,Qf,Qh,Qk,Ql,Qq,Qs,Q1,Q2,Q3,Q4,Q8,Ja,Jf,Jh,Ji,Jj,Jl,Jm,J3,J4,J5,J6,J8,J9,Xb,Xc,Xf,Xn,Xo,Xp,Xs,Xu,Xv,X3,X4,X6,X7,X8,X9,Wc,Wf,Wh,Wi,Wj,Wm,Wt,Wu,Wv,Ww,Wx,Wz,W0,W3,W4,W5,W6,W7,W8,W9,Ya,Yb,Ye,Yf,Yh,Yi,Yj,Yl,Ym,Yn,Yq,Yx,Yy,Y7,Y8,Vb,Vc,Vd,Ve,Vf,Vg,Vp,Vr,Vt,V4,V5,V6,V8,Ud,Ul,Um,Un,Uo,Up,Uq,U8,Ku,Kq,U4,U3,Hi]
       tactic =>
        try simp only [U1] at *
        try simp only [nc2] at *
        try simp (maxSteps := 4000000) only [hleb,hdb,hel,hnb,Uu,Us,Uv,Ur,szN,Ut,U9]
        repeat' (first | with_reducible assumption | with_reducible refine And.intro ?_ ?_ | intro _ | omega | (rw [U0]; omega))
        refine Km [5, 8, 9, 35, 36, 37, 38, 39, 40, 41, 42, 43, 44, 45, 46, 47, 48, 49, 50, 51, 52, 53, 54, 55, 56, 57, 58, 59, 60, 61, 62, 63, 64, 65, 66, 67, 68, 69, 70, 71, 72, 73, 74, 75, 76, 77, 78, 79, 80, 81, 82, 83, 84, 85, 86, 87, 88] (fun q : Nat × List UInt8 × Nat => [(7, .d (.str q.2.1)), (34, .d (.int .i64 q.1))]) (fun q : Nat × List UInt8 × Nat => [(90000, .box false [.d (.int .i64 q.2.2)])]) (fun q : Nat × List UInt8 × Nat => q.1 ≤ ar p ∧ kidsR t (La t f) p (ar p - q.1) q.1 q.2.1 q.2.2 = (r1, r2)) (fun q : Nat × List UInt8 × Nat => ar p - q.1) (0, [], i + 1) ?_ ?_ ?_
        · exact ⟨Nat.zero_le _, hr⟩
        · ((try simp only [U2, Ka, U6, Kg, upd, Kh, Ko, Gd, Nat.reduceDiv, Nat.reduceMod, Nat.reduceMul, Nat.reduceAdd, Nat.reduceEqDiff, List.set_cons_zero, List.set_cons_succ, if_true, if_false, reduceIte]); (first | refine Wk.of_fl ?_ | skip); simp only [Wk, wkK, Gl, wkT, wk1, AV.kept, keptAll, wkO, lk, U5, and_true, true_and, and_self, Nat.reduceEqDiff, Nat.reduceLeDiff, if_true, if_false, reduceIte, reduceCtorEq, Option.isSome, false_implies]; try simp [Wk, wkK, wkT, wk1, AV.kept, keptAll, wkO, lk, U5])
        rintro ⟨k, last, j⟩ ⟨hk, hR⟩
        simp only at hk hR
        rcases Ks k (ar p) with ⟨hlt, hltb⟩ | ⟨hlt, hltb⟩
        · obtain ⟨m, hm⟩ : ∃ m, ar p - k = m + 1 := ⟨ar p - k - 1, by omega⟩
          rw [hm, kidsR] at hR
          rcases Es t.length j with ⟨hle2, hleb2⟩ | ⟨hle2, hleb2⟩
          · rw [hleb2, cond_true] at hR
            injection hR with hr1 hr2
            subst hr1
            subst hr2
            (sym =>
             simp [hltb,hleb2,Uu,Us,Uv,Ur,szN,Ut,Gw,Hg,Zb,Zc,Ze,Zf,Zg,Zo,Zp,Zq,Zv,Z6,Qb,Qd,Qo,Qq,Qs,Qv,Qw,Qx,Q1,Q2,Q4,Jh,Ji,Jk,Jp,Jy,Jz,J0,J5,J6,J8,J9,Xa,Xb,Xc,Xf,Xl,Xm,X3,X4,X6,X7,X8,Wb,Wc,Wf,Wh,Wi,Wj,Wt,Wu,Wv,Ww,W6,W7,Ya,Yb,Yd,Ye,Yh,Yi,Yl,Y7,Y8,Y9,Va,Vt,V5,Uk,Um,Un,Uo,Up,U8,Ku,Kq,U4,U3,Hi]
             tactic =>
              try simp only [U1] at *
              try simp only [nc2] at *
              try simp (maxSteps := 4000000) only [hltb,hleb2,Uu,Us,Uv,Ur,szN,Ut,U9]
              repeat' (first | with_reducible assumption | with_reducible refine And.intro ?_ ?_ | intro _ | omega | (rw [U0]; omega))
              refine ⟨[90000, 90001, 90002], by simp, rfl, M3, ?_⟩
              simp [K2,lk,rnO,rnA,rnAs,rk])
          rw [hleb2, cond_false] at hR
          have hjl : j < t.length := by omega
          have hel2 := Kf n0 hjl
          obtain ⟨x, hx⟩ : ∃ x, t.getD j n0 = x := ⟨_, rfl⟩
          rw [hx] at hel2 hR
          cases h9 : (x.kind == 9) with
          | true =>
            cases hrow : Ml p with
            | false =>
              have hb : Ac p k x last = true := by simp only [Ac, h9, hrow, cond_true, cond_false, Bool.not_true, Bool.not_false]
              rw [hb, cond_true] at hR
              injection hR with hr1 hr2
              subst hr1
              subst hr2
              (sym =>
               simp [hltb,hleb2,hel2,h9,hrow,Uu,Us,Uv,Ur,szN,Ut,Gw,Pq,Hg,Pr,Ht.eq_def,Nf.eq_def,H6.eq_def,Hr.eq_def,Zb,Zc,Zd,Ze,Zf,Zg,Zo,Zp,Zq,Zs,Zt,Zu,Zv,Zw,Zx,Zy,Z6,Z9,Qb,Qc,Qd,Qe,Qf,Qh,Qk,Ql,Qm,Qo,Qq,Qs,Qv,Qw,Qx,Q1,Q2,Q4,Q8,Ja,Jf,Jh,Ji,Jj,Jk,Jl,Jp,Jy,Jz,J0,J5,J6,J8,J9,Xa,Xb,Xc,Xf,Xl,Xm,Xp,Xs,Xu,Xv,X3,X4,X6,X7,X8,Wb,Wc,Wf,Wh,Wi,Wj,Wm,Wt,Wu,Wv,Ww,Wx,Wz,W0,W4,W5,W6,W7,W8,W9,Ya,Yb,Yd,Ye,Yf,Yh,Yi,Yj,Yl,Ym,Yq,Yy,Y7,Y8,Y9,Va,Vc,Vd,Ve,Vf,Vg,Vq,Vr,Vt,V4,V5,Uk,Ul,Um,Un,Uo,Up,Uq,U8,Ku,Kq,U4,U3,Hi]
               tactic =>
                try simp only [U1] at *
                try simp only [nc2] at *
                try simp (maxSteps := 4000000) only [hltb,hleb2,hel2,h9,hrow,Uu,Us,Uv,Ur,szN,Ut,U9]
                repeat' (first | with_reducible assumption | with_reducible refine And.intro ?_ ?_ | intro _ | omega | (rw [U0]; omega))
                refine ⟨[90000, 90001, 90002], by simp, rfl, M3, ?_⟩
                simp [K2,lk,rnO,rnA,rnAs,rk])
            | true =>
              have hpn := numb_row hnb hrow
              cases hlk : ltB (k : Int) (p.n - 1) with
              | true =>
                have hb : Ac p k x last = true := by simp only [Ac, h9, hrow, hlk, cond_true, cond_false, Bool.not_true, Bool.not_false]
                rw [hb, cond_true] at hR
                injection hR with hr1 hr2
                subst hr1
                subst hr2
                (sym =>
                 simp [hltb,hleb2,hel2,h9,hrow,hlk,Uu,Us,Uv,Ur,szN,Ut,Gw,Pq,Hg,Pr,Br,Ht.eq_def,Nf.eq_def,H6.eq_def,Hr.eq_def,Zb,Zc,Zd,Ze,Zf,Zg,Zo,Zp,Zq,Zs,Zt,Zu,Zv,Zw,Zx,Zy,Z6,Z9,Qb,Qc,Qd,Qe,Qf,Qh,Qk,Ql,Qm,Qo,Qq,Qs,Qv,Qw,Qx,Q1,Q2,Q4,Q8,Ja,Jf,Jh,Ji,Jj,Jk,Jl,Jp,Jy,Jz,J0,J5,J6,J8,J9,Xa,Xb,Xc,Xf,Xl,Xm,Xp,Xs,Xu,Xv,X3,X4,X6,X7,X8,Wb,Wc,Wf,Wh,Wi,Wj,Wm,Wt,Wu,Wv,Ww,Wx,Wz,W0,W4,W5,W6,W7,W8,W9,Ya,Yb,Yd,Ye,Yf,Yh,Yi,Yj,Yl,Ym,Yq,Yy,Y7,Y8,Y9,Va,Vc,Vd,Ve,Vf,Vg,Vp,Vr,Vt,V4,V5,Uk,Ul,Um,Un,Uo,Up,Uq,U8,Ku,Kq,U4,U3,Hi]
                 tactic =>
                  try simp only [U1] at *
                  try simp only [nc2] at *
                  try simp (maxSteps := 4000000) only [hltb,hleb2,hel2,h9,hrow,hlk,Uu,Us,Uv,Ur,szN,Ut,U9]
                  repeat' (first | with_reducible assumption | with_reducible refine And.intro ?_ ?_ | intro _ | omega | (rw [U0]; omega))
                  refine ⟨[90000, 90001, 90002], by simp, rfl, M3, ?_⟩
                  simp [K2,lk,rnO,rnA,rnAs,rk])
              | false =>
                cases hnm : (x.name == []) with
                | false =>
                  have hb : Ac p k x last = true := by simp only [Ac, h9, hrow, hlk, hnm, cond_true, cond_false, Bool.not_true, Bool.not_false]
                  rw [hb, cond_true] at hR
                  injection hR with hr1 hr2
                  subst hr1
                  subst hr2
                  (sym =>
                   simp [hltb,hleb2,hel2,h9,hrow,hlk,hnm,Uu,Us,Uv,Ur,szN,Ut,Gw,Pq,Hg,Pr,Br,Ht.eq_def,Nf.eq_def,H6.eq_def,Hr.eq_def,Zb,Zc,Zd,Ze,Zf,Zg,Zo,Zp,Zq,Zs,Zt,Zu,Zv,Zw,Zx,Zy,Z6,Z9,Qb,Qc,Qd,Qe,Qf,Qh,Qk,Ql,Qm,Qo,Qq,Qs,Qv,Qw,Qx,Q1,Q2,Q4,Q8,Ja,Jf,Jh,Ji,Jj,Jk,Jl,Jp,Jy,Jz,J0,J5,J6,J8,J9,Xa,Xb,Xc,Xf,Xl,Xm,Xp,Xs,Xu,Xv,X3,X4,X6,X7,X8,Wb,Wc,Wf,Wh,Wi,Wj,Wm,Wt,Wu,Wv,Ww,Wx,Wz,W0,W3,W4,W5,W6,W7,W8,W9,Ya,Yb,Yd,Ye,Yf,Yg,Yh,Yi,Yj,Yk,Yl,Ym,Yq,Yy,Y7,Y8,Y9,Va,Vc,Vd,Ve,Vf,Vg,Vp,Vq,Vr,Vt,V4,V5,V6,V8,Uk,Ul,Um,Un,Uo,Up,Uq,U8,Ku,Kq,U4,U3,Hi]
                   tactic =>
                    try simp only [U1] at *
                    try simp only [nc2] at *
                    try simp (maxSteps := 4000000) only [hltb,hleb2,hel2,h9,hrow,hlk,hnm,Uu,Us,Uv,Ur,szN,Ut,U9]
                    repeat' (first | with_reducible assumption | with_reducible refine And.intro ?_ ?_ | intro _ | omega | (rw [U0]; omega))
                    refine ⟨[90000, 90001, 90002], by simp, rfl, M3, ?_⟩
                    simp [K2,lk,rnO,rnA,rnAs,rk])
                | true =>
                  have hb : Ac p k x last = false := by simp only [Ac, h9, hrow, hlk, hnm, cond_true, cond_false, Bool.not_true, Bool.not_false]
                  rw [hb, cond_false] at hR
                  obtain ⟨w, hw⟩ : ∃ w, La t f j = w := ⟨_, rfl⟩
                  rw [hw] at hR
                  obtain ⟨w1, w2⟩ := w
                  simp only at hR
                  have hp2 : (Nj n).post ⟨t, j, f, d + 1⟩ = P7 t w2 := by rw [treeT_post, hw]
                  have hp3 : (Nj n).res ⟨t, j, f, d + 1⟩ = .bool w1 := by rw [treeT_res, hw]
                  (sym =>
                   simp [hltb,hleb2,hel2,h9,hrow,hlk,hnm,Uu,Us,Uv,Ur,szN,Ut,Gw,Pq,Hg,Pr,Br,Ht.eq_def,Nf.eq_def,H6.eq_def,Hr.eq_def,Zb,Zc,Zd,Ze,Zf,Zg,Zo,Zp,Zq,Zs,Zt,Zu,Zv,Zw,Zx,Zy,Z6,Z9,Qb,Qc,Qd,Qe,Qf,Qh,Qk,Ql,Qm,Qq,Qs,Q1,Q2,Q4,Q8,Ja,Jf,Jh,Ji,Jj,Jl,Jy,Jz,J0,J5,J6,J7,J8,J9,Xa,Xb,Xc,Xf,Xp,Xs,Xu,Xv,X3,X4,X6,X7,X8,Wc,Wf,Wh,Wi,Wj,Wm,Wt,Wu,Wv,Ww,Wx,Wz,W0,W3,W4,W5,W6,W7,W8,W9,Ya,Yb,Yd,Ye,Yf,Yg,Yh,Yi,Yj,Yk,Yl,Ym,Yq,Yy,Y7,Y8,Y9,Va,Vb,Vc,Vd,Ve,Vf,Vg,Vp,Vr,Vt,V4,V5,V6,V8,Uk,Ul,Um,Un,Uo,Up,Uq,U8,Ku,Kq,U4,U3,Hi]
                   tactic =>
                    try simp only [U1] at *
                    try simp only [nc2] at *
                    try simp (maxSteps := 4000000) only [hltb,hleb2,hel2,h9,hrow,hlk,hnm,Uu,Us,Uv,Ur,szN,Ut,U9]
                    repeat' (first | with_reducible assumption | with_reducible refine And.intro ?_ ?_ | intro _ | omega | (rw [U0]; omega))
                    refine Cl (bc := Nj n) ⟨t, j, f, d + 1⟩ [90000, 90001, 90002] ⟨ht, hN, by simp only; omega, by simp only; omega, by simp only; omega⟩ rfl (by simp) (by rw [hp2]; rfl) ?_ ?_ ?_
                    · show K2 _ _ (P7 t j) _
                      rw [Hk]
                      simp [K2,lk,rnO,rnA,rnAs,rk]
                    · show Mm (List.drop (P7 t j).length _) _
                      rw [Hk]
                      simp [Mm,lk]
                    cases w1 with
                    | false =>
                      rw [cond_false] at hR
                      injection hR with hr1 hr2
                      subst hr1
                      subst hr2
                      (sym =>
                       simp [hp2,hp3,Hk,Uu,Us,Uv,Ur,szN,Ut,Gw,Hg,Zb,Zc,Ze,Zf,Zg,Qc,Qd,Qo,Qq,Qs,Qt,Qu,Qv,Qw,Qx,Q1,Q2,Q4,Ji,Jk,Jn,Jo,Jp,Jq,J5,J6,J7,J8,J9,Xa,Xb,Xc,Xf,Xl,Xm,X4,X6,X7,Wb,Wc,Wf,Wh,Wi,Wt,Wu,Wv,Ww,W6,W7,Ya,Yb,Yf,Yj,Y7,Y8,Y9,Va,Vq,Vt,V5,Uk,Um,Un,U8,Ku,Kq,U4,U3,Hi]
                       tactic =>
                        try simp only [U1] at *
                        try simp only [nc2] at *
                        try simp (maxSteps := 4000000) only [hp2,hp3,Hk,Uu,Us,Uv,Ur,szN,Ut,U9]
                        repeat' (first | with_reducible assumption | with_reducible refine And.intro ?_ ?_ | intro _ | omega | (rw [U0]; omega))
                        refine ⟨[90000, 90001, 90002], by simp, rfl, M3, ?_⟩
                        simp [K2,lk,rnO,rnA,rnAs,rk])
                    | true =>
                      rw [cond_true] at hR
                      (sym =>
                       simp [hp2,hp3,Hk,Uu,Us,Uv,Ur,szN,Ut,Gw,Br,Zb,Zc,Ze,Zf,Zg,Qb,Qc,Qd,Qq,Qs,Qt,Qu,Q1,Q2,Q4,Ji,Jn,Jo,Jq,J5,J6,J7,J8,J9,Xa,Xb,Xc,X3,X4,X7,Wc,Wf,Wh,Wi,Wt,Wu,Wv,Ww,Ya,Yb,Ye,Yf,Yi,Yj,Y7,Y8,Y9,Va,Vp,Vt,V4,Ul,Um,U8,Ku,Kq,U4,U3,Hi]
                       tactic =>
                        try simp only [U1] at *
                        try simp only [nc2] at *
                        try simp (maxSteps := 4000000) only [hp2,hp3,Hk,Uu,Us,Uv,Ur,szN,Ut,U9]
                        repeat' (first | with_reducible assumption | with_reducible refine And.intro ?_ ?_ | intro _ | omega | (rw [U0]; omega))
                        refine ⟨(k + 1, x.name, w2), by ((try simp only [U2, Ka, U6, Kg, upd, Kh, Ko, Gd, Nat.reduceDiv, Nat.reduceMod, Nat.reduceMul, Nat.reduceAdd, Nat.reduceEqDiff, List.set_cons_zero, List.set_cons_succ, if_true, if_false, reduceIte]); (first | refine Wk.of_fl ?_ | skip); simp only [Wk, wkK, Gl, wkT, wk1, AV.kept, keptAll, wkO, lk, U5, and_true, true_and, and_self, Nat.reduceEqDiff, Nat.reduceLeDiff, if_true, if_false, reduceIte, reduceCtorEq, Option.isSome, false_implies]; try simp [Wk, wkK, wkT, wk1, AV.kept, keptAll, wkO, lk, U5]), by simp only; omega, ?_, by simp only; omega⟩
                        simp only
                        rw [show ar p - (k + 1) = m by omega]
                        exact hR))
          | false =>
            cases hla : labB p.kind x.name with
            | false =>
              have hb : Ac p k x last = true := by simp only [Ac, h9, hla, cond_true, cond_false, Bool.not_true, Bool.not_false]
              rw [hb, cond_true] at hR
              injection hR with hr1 hr2
              subst hr1
              subst hr2
              (sym =>
               simp [hltb,hleb2,hel2,h9,hla,Uu,Us,Uv,Ur,szN,Ut,Gw,Pq,Hg,Pr,Ht.eq_def,Nf.eq_def,H6.eq_def,Hr.eq_def,Zb,Zc,Zd,Ze,Zf,Zg,Zo,Zp,Zq,Zs,Zt,Zu,Zv,Zw,Zx,Zy,Z6,Z9,Qb,Qc,Qd,Qe,Qf,Qk,Ql,Qm,Qo,Qq,Qs,Qv,Qw,Qx,Q1,Q2,Q4,Q8,Jf,Jh,Ji,Jj,Jk,Jl,Jp,Jy,Jz,J0,J5,J6,J7,J8,J9,Xa,Xb,Xc,Xf,Xl,Xm,Xp,Xs,Xu,Xv,X3,X4,X6,X7,X8,Wb,Wc,Wf,Wh,Wi,Wj,Wm,Wt,Wu,Wv,Ww,Wx,Wz,W0,W4,W5,W6,W7,W8,W9,Ya,Yb,Yd,Ye,Yf,Yh,Yi,Yj,Yl,Ym,Yq,Yy,Y7,Y8,Y9,Va,Vc,Ve,Vf,Vg,Vh,Vi,Vm,Vn,Vq,Vr,Vt,V4,V5,Uk,Ul,Um,Un,Uo,Up,Uq,U8,Ku,Kq,U4,U3,Hi]
               tactic =>
                try simp only [U1] at *
                try simp only [nc2] at *
                try simp (maxSteps := 4000000) only [hltb,hleb2,hel2,h9,hla,Uu,Us,Uv,Ur,szN,Ut,U9]
                repeat' (first | with_reducible assumption | with_reducible refine And.intro ?_ ?_ | intro _ | omega | (rw [U0]; omega))
                refine ⟨[90000, 90001, 90002], by simp, rfl, M3, ?_⟩
                simp [K2,lk,rnO,rnA,rnAs,rk])
            | true =>
              cases hrow : Ml p with
              | false =>
                have hb : Ac p k x last = false := by simp only [Ac, h9, hla, hrow, cond_true, cond_false, Bool.not_true, Bool.not_false]
                rw [hb, cond_false] at hR
                obtain ⟨w, hw⟩ : ∃ w, La t f j = w := ⟨_, rfl⟩
                rw [hw] at hR
                obtain ⟨w1, w2⟩ := w
                simp only at hR
                have hp2 : (Nj n).post ⟨t, j, f, d + 1⟩ = P7 t w2 := by rw [treeT_post, hw]
                have hp3 : (Nj n).res ⟨t, j, f, d + 1⟩ = .bool w1 := by rw [treeT_res, hw]
                (sym =>
                 simp [hltb,hleb2,hel2,h9,hla,hrow,Uu,Us,Uv,Ur,szN,Ut,Gw,Pq,Hg,Pr,Br,Ht.eq_def,Nf.eq_def,H6.eq_def,Hr.eq_def,Zb,Zc,Zd,Ze,Zf,Zg,Zo,Zp,Zq,Zs,Zt,Zu,Zv,Zw,Zx,Zy,Z6,Z9,Qb,Qc,Qd,Qe,Qf,Qh,Qk,Ql,Qm,Qq,Qs,Q1,Q2,Q4,Q8,Ja,Jf,Jh,Ji,Jj,Jl,Jy,Jz,J0,J5,J6,J7,J8,J9,Xa,Xb,Xc,Xf,Xp,Xs,Xu,Xv,X3,X4,X6,X7,X8,Wc,Wf,Wh,Wi,Wj,Wm,Wt,Wu,Wv,Ww,Wx,Wz,W0,W4,W5,W6,W7,W8,W9,Ya,Yb,Yd,Ye,Yf,Yh,Yi,Yj,Yl,Ym,Yq,Yy,Y7,Y8,Y9,Va,Vb,Vc,Vd,Ve,Vf,Vg,Vh,Vi,Vm,Vn,Vp,Vr,Vt,V4,V5,Uk,Ul,Um,Un,Uo,Up,Uq,U8,Ku,Kq,U4,U3,Hi]
                 tactic =>
                  try simp only [U1] at *
                  try simp only [nc2] at *
                  try simp (maxSteps := 4000000) only [hltb,hleb2,hel2,h9,hla,hrow,Uu,Us,Uv,Ur,szN,Ut,U9]
                  repeat' (first | with_reducible assumption | with_reducible refine And.intro ?_ ?_ | intro _ | omega | (rw [U0]; omega))
                  refine Cl (bc := Nj n) ⟨t, j, f, d + 1⟩ [90000, 90001, 90002] ⟨ht, hN, by simp only; omega, by simp only; omega, by simp only; omega⟩ rfl (by simp) (by rw [hp2]; rfl) ?_ ?_ ?_
                  · show K2 _ _ (P7 t j) _
                    rw [Hk]
                    simp [K2,lk,rnO,rnA,rnAs,rk]
                  · show Mm (List.drop (P7 t j).length _) _
                    rw [Hk]
                    simp [Mm,lk]
                  cases w1 with
                  | false =>
                    rw [cond_false] at hR
                    injection hR with hr1 hr2
                    subst hr1
                    subst hr2
                    (sym =>
                     simp [hp2,hp3,Hk,Uu,Us,Uv,Ur,szN,Ut,Gw,Hg,Zb,Zc,Ze,Zf,Zg,Qc,Qd,Qo,Qq,Qs,Qt,Qu,Qv,Qw,Qx,Q1,Q2,Q4,Ji,Jk,Jn,Jo,Jp,Jq,J5,J6,J7,J8,J9,Xa,Xb,Xc,Xf,Xl,Xm,X4,X6,X7,Wb,Wc,Wf,Wh,Wi,Wt,Wu,Wv,Ww,W6,W7,Ya,Yb,Yf,Yj,Y7,Y8,Y9,Va,Vq,Vt,V5,Uk,Um,Un,U8,Ku,Kq,U4,U3,Hi]
                     tactic =>
                      try simp only [U1] at *
                      try simp only [nc2] at *
                      try simp (maxSteps := 4000000) only [hp2,hp3,Hk,Uu,Us,Uv,Ur,szN,Ut,U9]
                      repeat' (first | with_reducible assumption | with_reducible refine And.intro ?_ ?_ | intro _ | omega | (rw [U0]; omega))
                      refine ⟨[90000, 90001, 90002], by simp, rfl, M3, ?_⟩
                      simp [K2,lk,rnO,rnA,rnAs,rk])
                  | true =>
                    rw [cond_true] at hR
                    (sym =>
                     simp [hp2,hp3,Hk,Uu,Us,Uv,Ur,szN,Ut,Gw,Br,Zb,Zc,Ze,Zf,Zg,Qb,Qc,Qd,Qq,Qs,Qt,Qu,Q1,Q2,Q4,Ji,Jn,Jo,Jq,J5,J6,J7,J8,J9,Xa,Xb,Xc,X3,X4,X7,Wc,Wf,Wh,Wi,Wt,Wu,Wv,Ww,Ya,Yb,Ye,Yf,Yi,Yj,Y7,Y8,Y9,Va,Vp,Vt,V4,Ul,Um,U8,Ku,Kq,U4,U3,Hi]
                     tactic =>
                      try simp only [U1] at *
                      try simp only [nc2] at *
                      try simp (maxSteps := 4000000) only [hp2,hp3,Hk,Uu,Us,Uv,Ur,szN,Ut,U9]
                      repeat' (first | with_reducible assumption | with_reducible refine And.intro ?_ ?_ | intro _ | omega | (rw [U0]; omega))
                      refine ⟨(k + 1, x.name, w2), by ((try simp only [U2, Ka, U6, Kg, upd, Kh, Ko, Gd, Nat.reduceDiv, Nat.reduceMod, Nat.reduceMul, Nat.reduceAdd, Nat.reduceEqDiff, List.set_cons_zero, List.set_cons_succ, if_true, if_false, reduceIte]); (first | refine Wk.of_fl ?_ | skip); simp only [Wk, wkK, Gl, wkT, wk1, AV.kept, keptAll, wkO, lk, U5, and_true, true_and, and_self, Nat.reduceEqDiff, Nat.reduceLeDiff, if_true, if_false, reduceIte, reduceCtorEq, Option.isSome, false_implies]; try simp [Wk, wkK, wkT, wk1, AV.kept, keptAll, wkO, lk, U5]), by simp only; omega, ?_, by simp only; omega⟩
                      simp only
                      rw [show ar p - (k + 1) = m by omega]
                      exact hR))
              | true =>
                cases hlq : (Op.bytesLess x.name last || x.name == last) with
                | true =>
                  have hb : Ac p k x last = true := by simp only [Ac, h9, hla, hrow, hlq, cond_true, cond_false, Bool.not_true, Bool.not_false]
                  rw [hb, cond_true] at hR
                  injection hR with hr1 hr2
                  subst hr1
                  subst hr2
                  (sym =>
                   simp [hltb,hleb2,hel2,h9,hla,hrow,hlq,Uu,Us,Uv,Ur,szN,Ut,Gw,Pq,Hg,Pr,Ht.eq_def,Nf.eq_def,H6.eq_def,Hr.eq_def,Zb,Zc,Zd,Ze,Zf,Zg,Zo,Zp,Zq,Zs,Zt,Zu,Zv,Zw,Zx,Zy,Z6,Z9,Qb,Qc,Qd,Qe,Qf,Qh,Qk,Ql,Qm,Qo,Qq,Qs,Qv,Qw,Qx,Q1,Q2,Q4,Q8,Ja,Jf,Jh,Ji,Jj,Jk,Jl,Jp,Jy,Jz,J0,J5,J6,J7,J8,J9,Xa,Xb,Xc,Xf,Xl,Xm,Xp,Xs,Xu,Xv,X3,X4,X6,X7,X8,Wb,Wc,Wf,Wh,Wi,Wj,Wm,Wt,Wu,Wv,Ww,Wx,Wz,W0,W4,W5,W6,W7,W8,W9,Ya,Yb,Yd,Ye,Yf,Yg,Yh,Yi,Yj,Yk,Yl,Ym,Yq,Yy,Y7,Y8,Y9,Va,Vc,Vd,Ve,Vf,Vg,Vh,Vi,Vm,Vn,Vp,Vr,Vt,V4,V5,Uk,Ul,Um,Un,Uo,Up,Uq,U8,Ku,Kq,U4,U3,Hi]
                   tactic =>
                    try simp only [U1] at *
                    try simp only [nc2] at *
                    try simp (maxSteps := 4000000) only [hltb,hleb2,hel2,h9,hla,hrow,hlq,Uu,Us,Uv,Ur,szN,Ut,U9]
                    repeat' (first | with_reducible assumption | with_reducible refine And.intro ?_ ?_ | intro _ | omega | (rw [U0]; omega))
                    refine ⟨[90000, 90001, 90002], by simp, rfl, M3, ?_⟩
                    simp [K2,lk,rnO,rnA,rnAs,rk])
                | false =>
                  have hb : Ac p k x last = false := by simp only [Ac, h9, hla, hrow, hlq, cond_true, cond_false, Bool.not_true, Bool.not_false]
                  rw [hb, cond_false] at hR
                  obtain ⟨w, hw⟩ : ∃ w, La t f j = w := ⟨_, rfl⟩
                  rw [hw] at hR
                  obtain ⟨w1, w2⟩ := w
                  simp only at hR
                  have hp2 : (Nj n).post ⟨t, j, f, d + 1⟩ = P7 t w2 := by rw [treeT_post, hw]
                  have hp3 : (Nj n).res ⟨t, j, f, d + 1⟩ = .bool w1 := by rw [treeT_res, hw]
                  (sym =>
                   simp [hltb,hleb2,hel2,h9,hla,hrow,hlq,Uu,Us,Uv,Ur,szN,Ut,Gw,Pq,Hg,Pr,Br,Ht.eq_def,Nf.eq_def,H6.eq_def,Hr.eq_def,Zb,Zc,Zd,Ze,Zf,Zg,Zo,Zp,Zq,Zs,Zt,Zu,Zv,Zw,Zx,Zy,Z6,Z9,Qb,Qc,Qd,Qe,Qf,Qh,Qk,Ql,Qm,Qq,Qs,Q1,Q2,Q4,Q8,Ja,Jf,Jh,Ji,Jj,Jl,Jy,Jz,J0,J5,J6,J7,J8,J9,Xa,Xb,Xc,Xf,Xp,Xs,Xu,Xv,X3,X4,X6,X7,X8,Wc,Wf,Wh,Wi,Wj,Wm,Wt,Wu,Wv,Ww,Wx,Wz,W0,W4,W5,W6,W7,W8,W9,Ya,Yb,Yd,Ye,Yf,Yg,Yh,Yi,Yj,Yk,Yl,Ym,Yq,Yy,Y7,Y8,Y9,Va,Vb,Vc,Vd,Ve,Vf,Vg,Vh,Vi,Vm,Vn,Vp,Vr,Vt,V4,V5,Uk,Ul,Um,Un,Uo,Up,Uq,U8,Ku,Kq,U4,U3,Hi]
                   tactic =>
                    try simp only [U1] at *
                    try simp only [nc2] at *
                    try simp (maxSteps := 4000000) only [hltb,hleb2,hel2,h9,hla,hrow,hlq,Uu,Us,Uv,Ur,szN,Ut,U9]
                    repeat' (first | with_reducible assumption | with_reducible refine And.intro ?_ ?_ | intro _ | omega | (rw [U0]; omega))
                    refine Cl (bc := Nj n) ⟨t, j, f, d + 1⟩ [90000, 90001, 90002] ⟨ht, hN, by simp only; omega, by simp only; omega, by simp only; omega⟩ rfl (by simp) (by rw [hp2]; rfl) ?_ ?_ ?_
                    · show K2 _ _ (P7 t j) _
                      rw [Hk]
                      simp [K2,lk,rnO,rnA,rnAs,rk]
                    · show Mm (List.drop (P7 t j).length _) _
                      rw [Hk]
                      simp [Mm,lk]
                    cases w1 with
                    | false =>
                      rw [cond_false] at hR
                      injection hR with hr1 hr2
                      subst hr1
                      subst hr2
                      (sym =>
                       simp [hp2,hp3,Hk,Uu,Us,Uv,Ur,szN,Ut,Gw,Hg,Zb,Zc,Ze,Zf,Zg,Qc,Qd,Qo,Qq,Qs,Qt,Qu,Qv,Qw,Qx,Q1,Q2,Q4,Ji,Jk,Jn,Jo,Jp,Jq,J5,J6,J7,J8,J9,Xa,Xb,Xc,Xf,Xl,Xm,X4,X6,X7,Wb,Wc,Wf,Wh,Wi,Wt,Wu,Wv,Ww,W6,W7,Ya,Yb,Yf,Yj,Y7,Y8,Y9,Va,Vq,Vt,V5,Uk,Um,Un,U8,Ku,Kq,U4,U3,Hi]
                       tactic =>
                        try simp only [U1] at *
                        try simp only [nc2] at *
                        try simp (maxSteps := 4000000) only [hp2,hp3,Hk,Uu,Us,Uv,Ur,szN,Ut,U9]
                        repeat' (first | with_reducible assumption | with_reducible refine And.intro ?_ ?_ | intro _ | omega | (rw [U0]; omega))
                        refine ⟨[90000, 90001, 90002], by simp, rfl, M3, ?_⟩
                        simp [K2,lk,rnO,rnA,rnAs,rk])
                    | true =>
                      rw [cond_true] at hR
                      (sym =>
                       simp [hp2,hp3,Hk,Uu,Us,Uv,Ur,szN,Ut,Gw,Br,Zb,Zc,Ze,Zf,Zg,Qb,Qc,Qd,Qq,Qs,Qt,Qu,Q1,Q2,Q4,Ji,Jn,Jo,Jq,J5,J6,J7,J8,J9,Xa,Xb,Xc,X3,X4,X7,Wc,Wf,Wh,Wi,Wt,Wu,Wv,Ww,Ya,Yb,Ye,Yf,Yi,Yj,Y7,Y8,Y9,Va,Vp,Vt,V4,Ul,Um,U8,Ku,Kq,U4,U3,Hi]
                       tactic =>
                        try simp only [U1] at *
                        try simp only [nc2] at *
                        try simp (maxSteps := 4000000) only [hp2,hp3,Hk,Uu,Us,Uv,Ur,szN,Ut,U9]
                        repeat' (first | with_reducible assumption | with_reducible refine And.intro ?_ ?_ | intro _ | omega | (rw [U0]; omega))
                        refine ⟨(k + 1, x.name, w2), by ((try simp only [U2, Ka, U6, Kg, upd, Kh, Ko, Gd, Nat.reduceDiv, Nat.reduceMod, Nat.reduceMul, Nat.reduceAdd, Nat.reduceEqDiff, List.set_cons_zero, List.set_cons_succ, if_true, if_false, reduceIte]); (first | refine Wk.of_fl ?_ | skip); simp only [Wk, wkK, Gl, wkT, wk1, AV.kept, keptAll, wkO, lk, U5, and_true, true_and, and_self, Nat.reduceEqDiff, Nat.reduceLeDiff, if_true, if_false, reduceIte, reduceCtorEq, Option.isSome, false_implies]; try simp [Wk, wkK, wkT, wk1, AV.kept, keptAll, wkO, lk, U5]), by simp only; omega, ?_, by simp only; omega⟩
                        simp only
                        rw [show ar p - (k + 1) = m by omega]
                        exact hR))
        · have hz : ar p - k = 0 := by omega
          rw [hz, kidsR] at hR
          injection hR with hr1 hr2
          subst hr1
          subst hr2
          (sym =>
           simp [hltb,Uu,Us,Uv,Ur,szN,Ut,Gw,Hg,Zb,Zc,Ze,Zf,Zg,Qb,Qd,Qo,Qq,Qs,Qv,Qw,Qx,Q1,Q2,Q4,Ji,Jk,Jp,Jy,Jz,J0,J5,J6,J8,J9,Xa,Xb,Xc,Xf,Xl,Xm,X4,X6,X7,Wa,Wb,Wc,Wf,Wh,Wi,Wt,Wu,Wv,Ww,W6,W7,Ya,Yb,Yd,Ye,Yi,Y7,Y8,Y9,Va,Vt,V5,Ul,Um,Un,Uo,U8,Ku,Kq,U4,U3,Hi]
           tactic =>
            try simp only [U1] at *
            try simp only [nc2] at *
            try simp (maxSteps := 4000000) only [hltb,Uu,Us,Uv,Ur,szN,Ut,U9]
            repeat' (first | with_reducible assumption | with_reducible refine And.intro ?_ ?_ | intro _ | omega | (rw [U0]; omega))
            refine ⟨[90000, 90001, 90002], by simp, rfl, M3, ?_⟩
            simp [K2,lk,rnO,rnA,rnAs,rk]))
theorem goodbn_treeT : ∀ n, GoodB Tryz.prog (99, Nj n)
  | 0 => goodb_void (U7 Tryz.func99 (by kernel_rfl) rfl) bcon_treeT_zero
  | n + 1 => stepb_treeT n (goodbn_treeT n)
end Go.Am.Ty
set_option linter.unusedSimpArgs false
set_option linter.unusedVariables false
set_option maxHeartbeats 1000000
namespace Go.Am.Ty
open Go.Proofs Go.Rose Go.Rose.Rose
open Enc (enc dec)
def Sd : BCon := Nj 101
theorem goodb_treeTA : GoodB Tryz.prog (99, Sd) := goodbn_treeT _
theorem treeTA_post {t : List Node} {i f : Nat} {d : Int} : Sd.post ⟨t, i, f, d⟩ = P7 t (La t f i).2 := rfl
theorem treeTA_res {t : List Node} {i f : Nat} {d : Int} : Sd.res ⟨t, i, f, d⟩ = .bool (La t f i).1 := rfl
def A7 (t : List Node) : Bool := !Ny t && ((La t 100 0).1 && ((La t 100 0).2 : Int) == (t.length : Int))
def Pe : Con := Ss (fun (t : Sl Node) => t.l.length ≤ 1000000 ∧ Cz t.l) (fun t => A7 t.l)
noncomputable def ctx_RightT : Ctx := ⟨tab, lkC [], 60, lkB [(99, Sd)], [], false⟩
theorem Cb : ctx_RightT.τ = tab := rfl
theorem Cc : ctx_RightT.dp = 60 := rfl
theorem ctx_RightT_b : ctx_RightT.Δ = lkB [(99, Sd)] := rfl
set_option maxRecDepth 100000 in
theorem good_RightT : Gj Tryz.prog (89, Pe) := by
  refine ⟨U7 Tryz.func89 (by kernel_rfl) rfl, ?_⟩
  have K : Ky Tryz.prog ctx_RightT := Kd K6 Ki (by simp) (by
    intro p hp
    simp only [List.mem_cons, List.not_mem_nil, or_false] at hp
    rcases hp with rfl
    · exact goodb_treeTA)
  obtain ⟨c, hc⟩ : ∃ c, Tryz.f89.body = some c := ⟨_, rfl⟩
  refine Ke K Tryz.func89 hc [.tmp 2] rfl 36 rfl (fun cvs hpre => ?_)
  change Pe.pre cvs at hpre
  unfold Pe at hpre
  obtain ⟨⟨t⟩, rfl, ht, hN⟩ := Ha hpre
  simp only at ht hN
  obtain ⟨w, hw⟩ : ∃ w, La t 100 0 = w := ⟨_, rfl⟩
  obtain ⟨w1, w2⟩ := w
  have hR : A7 t = (!Ny t && (w1 && (w2 : Int) == (t.length : Int))) := by unfold A7; rw [hw]
  simp only [Tryz.f89, Option.some.injEq] at hc
  subst hc
  refine Kw 2 (of_decide_eq_true (by kernel_rfl)) ?_
  by_cases h0 : t.length = 0
  · have hb : Ny t = true := by unfold Ny; simp [h0]
    have hRf : A7 t = false := by rw [hR, hb]; rfl
    have hlb : ((t.length : Int) == 0) = true := by rw [beq_iff_eq]; omega
    (sym =>
     simp [hlb,hRf,Uu,Us,Uv,Ur,szN,Ut,Cb,Cc,Pe.eq_def,Zb,Zc,Zd,Ze,Zf,Zo,Zp,Zq,Zt,Zu,Zv,Zw,Z6,Qb,Qd,Qi,Qk,Ql,Qn,Qo,Qp,Qq,Qs,Q1,Q2,Q4,Q8,Ja,Jf,Jh,Ji,Jk,Jw,J3,J4,J5,J6,J8,J9,Xb,Xc,Xf,Xn,Xo,Xu,X4,X6,X7,Wb,Wc,Wf,Wh,Wi,Wj,Wm,Wt,Wu,Wv,Ww,Wy,W0,W3,W6,W7,W8,W9,Ya,Yb,Ye,Yi,Yn,Ys,Yy,Y0,Y1,Y2,Y7,Y8,Vb,Vc,Vd,Ve,Vf,Vg,Vj,Vt,Vu,V4,V5,Ud,Uf,Ui,Uj,Uk,Um,Un,Up,Uq,U8,Kq,U4,U3,Hi])
  have hlb : ((t.length : Int) == 0) = false := by rw [beq_eq_false_iff_ne]; omega
  have hl0 : (t.length == 0) = false := by rw [beq_eq_false_iff_ne]; exact h0
  have hpos : 0 < t.length := by omega
  have hel := el_map0 hpos
  rcases Tc 10000 t.length with ⟨hl, hltb⟩ | ⟨hl, hltb⟩
  · have hb : Ny t = true := by unfold Ny; rw [hltb]; simp
    have hRf : A7 t = false := by rw [hR, hb]; rfl
    (sym =>
     simp [hlb,hltb,hRf,Uu,Us,Uv,Ur,szN,Ut,Cb,Cc,Pe.eq_def,Zb,Zc,Zd,Ze,Zf,Zo,Zp,Zq,Zt,Zu,Zv,Zw,Z6,Qb,Qd,Qi,Qk,Ql,Qn,Qo,Qp,Qq,Qs,Q1,Q2,Q4,Q8,Ja,Jf,Jh,Ji,Jk,Jw,J3,J4,J5,J6,J8,J9,Xb,Xc,Xf,Xn,Xo,Xu,X4,X6,X7,Wb,Wc,Wf,Wh,Wi,Wj,Wm,Wt,Wu,Wv,Ww,Wy,W0,W3,W6,W7,W8,W9,Ya,Yb,Ye,Yi,Yn,Ys,Yy,Y0,Y1,Y2,Y7,Y8,Vb,Vc,Vd,Ve,Vf,Vg,Vj,Vt,Vu,V4,V5,Ud,Uf,Ui,Uj,Uk,Ul,Um,Un,Up,Uq,U8,Kq,U4,U3,Hi])
  cases hnm : ((t.getD 0 n0).name == []) with
  | false =>
    have hb : Ny t = true := by unfold Ny; rw [hnm]; simp
    have hRf : A7 t = false := by rw [hR, hb]; rfl
    (sym =>
     simp [hlb,hltb,hel,hnm,hRf,Uu,Us,Uv,Ur,szN,Ut,Cb,Cc,Pe.eq_def,Zb,Zc,Zd,Ze,Zf,Zo,Zp,Zq,Zs,Zt,Zu,Zv,Zw,Zx,Zy,Z6,Qb,Qd,Qi,Qk,Ql,Qn,Qo,Qp,Qq,Qs,Q1,Q2,Q4,Q8,Ja,Jf,Jh,Ji,Jk,Jw,J3,J4,J5,J6,J8,J9,Xb,Xc,Xf,Xn,Xo,Xu,X4,X6,X7,Wb,Wc,Wf,Wh,Wi,Wj,Wm,Wt,Wu,Wv,Ww,Wy,W0,W3,W6,W7,W8,W9,Ya,Yb,Ye,Yg,Yi,Yk,Ym,Yn,Ys,Yu,Yw,Yy,Y0,Y1,Y2,Y7,Y8,Vb,Vc,Vd,Ve,Vf,Vg,Vj,Vq,Vs,Vt,Vu,V4,V5,V6,V8,Ud,Uf,Ui,Uj,Uk,Ul,Um,Un,Up,Uq,U8,Kq,U4,U3,Hi]
     tactic =>
      try simp only [U1] at *
      try simp only [nc2] at *
      try simp (maxSteps := 4000000) only [hlb,hltb,hel,hnm,hRf,Uu,Us,Uv,Ur,szN,Ut,U9]
      repeat' (first | with_reducible assumption | with_reducible refine And.intro ?_ ?_ | intro _ | omega | (rw [U0]; omega)))
  | true =>
    cases h9 : ((t.getD 0 n0).kind == 9) with
    | true =>
      have hb : Ny t = true := by unfold Ny; rw [h9]; simp
      have hRf : A7 t = false := by rw [hR, hb]; rfl
      (sym =>
       simp [hlb,hltb,hel,hnm,h9,hRf,Uu,Us,Uv,Ur,szN,Ut,Cb,Cc,Pe.eq_def,Zb,Zc,Zd,Ze,Zf,Zo,Zp,Zq,Zs,Zt,Zu,Zv,Zw,Zx,Zy,Z6,Qb,Qd,Qi,Qk,Ql,Qn,Qo,Qp,Qq,Qs,Q1,Q2,Q4,Q8,Ja,Jf,Jh,Ji,Jk,Jw,J3,J4,J5,J6,J8,J9,Xb,Xc,Xf,Xn,Xo,Xu,X4,X6,X7,Wb,Wc,Wf,Wh,Wi,Wj,Wm,Wt,Wu,Wv,Ww,Wy,W0,W3,W6,W7,W8,W9,Ya,Yb,Ye,Yg,Yi,Yk,Ym,Yn,Ys,Yt,Yu,Yw,Yy,Y0,Y1,Y2,Y7,Y8,Vb,Vc,Vd,Ve,Vf,Vg,Vj,Vp,Vs,Vt,Vu,V4,V5,V6,V8,Ud,Uf,Ui,Uj,Uk,Ul,Um,Un,Up,Uq,U8,Kq,U4,U3,Hi]
       tactic =>
        try simp only [U1] at *
        try simp only [nc2] at *
        try simp (maxSteps := 4000000) only [hlb,hltb,hel,hnm,h9,hRf,Uu,Us,Uv,Ur,szN,Ut,U9]
        repeat' (first | with_reducible assumption | with_reducible refine And.intro ?_ ?_ | intro _ | omega | (rw [U0]; omega)))
    | false =>
      have hb : Ny t = false := by unfold Ny; rw [hl0, hltb, hnm, h9]; rfl
      rw [hb, Bool.not_false, Bool.true_and] at hR
      have hp2 : Sd.post ⟨t, 0, 100, 1⟩ = P7 t w2 := by rw [treeTA_post, hw]
      have hp3 : Sd.res ⟨t, 0, 100, 1⟩ = .bool w1 := by rw [treeTA_res, hw]
      (sym =>
       simp [hlb,hltb,hel,hnm,h9,Uu,Us,Uv,Ur,szN,Ut,Cb,ctx_RightT_b,Pe.eq_def,Zb,Zc,Zd,Ze,Zf,Zo,Zp,Zq,Zs,Zt,Zu,Zv,Zw,Zx,Zy,Z6,Qb,Qd,Qi,Qk,Ql,Qq,Qs,Q1,Q2,Q4,Ja,Jf,Jh,Ji,Jl,Jw,J3,J4,J5,J6,J8,J9,Xb,Xc,Xn,Xo,Xu,X3,X4,X6,X7,Wc,Wf,Wh,Wi,Wj,Wm,Wt,Wu,Wv,Ww,Wy,W0,W3,W6,W7,W8,W9,Ya,Yb,Ye,Yg,Yi,Yk,Ym,Yn,Ys,Yt,Yu,Yw,Yy,Y0,Y1,Y2,Y7,Y8,Vb,Vc,Vd,Ve,Vf,Vg,Vj,Vp,Vs,Vt,Vu,V4,V5,V6,V8,Ud,Uf,Ui,Uj,Ul,Um,Un,Up,Uq,U8,Kq,U4,U3,Hi]
       tactic =>
        try simp only [U1] at *
        try simp only [nc2] at *
        try simp (maxSteps := 4000000) only [hlb,hltb,hel,hnm,h9,Uu,Us,Uv,Ur,szN,Ut,U9]
        repeat' (first | with_reducible assumption | with_reducible refine And.intro ?_ ?_ | intro _ | omega | (rw [U0]; omega))
        refine Cl (bc := Sd) ⟨t, 0, 100, 1⟩ [3, 1, 4] ⟨ht, hN, by simp only; omega, by simp only; omega, by simp only; omega⟩ rfl (by simp) (by rw [hp2]; rfl) ?_ ?_ ?_
        · show K2 _ _ (P7 t 0) _
          rw [Hk]
          simp [K2,lk,rnO,rnA,rnAs,rk]
          rfl
        · show Mm (List.drop (P7 t 0).length _) _
          rw [Hk]
          simp [Mm,lk]
        cases w1 with
        | false =>
          have hRf : A7 t = false := by rw [hR]; rfl
          (sym =>
           simp [hp2,hp3,Hk,hRf,Uu,Us,Uv,Ur,szN,Ut,Cc,Zb,Zc,Zd,Ze,Zf,Zt,Qn,Qo,Qp,Qq,Qs,Qt,Qu,Q1,Q2,Q4,Q8,Ji,Jk,Jn,Jo,Jq,J5,J6,J7,J8,J9,Xa,Xb,Xc,Xf,Wb,Wc,Wf,Wh,Wt,Wu,Wv,Ww,W8,W9,Ya,Yb,Y7,Y8,Y9,Va,Vt,V5,Ul,Un,U8,Kq,U4,U3,Hi])
        | true =>
          have hRf : A7 t = ((w2 : Int) == (t.length : Int)) := by rw [hR]; rfl
          (sym =>
           simp [hp2,hp3,Hk,hRf,Uu,Us,Uv,Ur,szN,Ut,Cb,Cc,Zb,Zc,Zd,Ze,Zf,Zo,Zp,Zq,Zt,Zv,Z6,Qb,Qd,Qn,Qo,Qp,Qq,Qs,Qt,Qu,Q1,Q2,Q4,Q8,Jh,Ji,Jk,Jn,Jo,Jq,J5,J6,J7,J8,J9,Xa,Xb,Xc,Xf,Wb,Wc,Wf,Wh,Wi,Wj,Wt,Wu,Wv,Ww,W6,W7,W8,W9,Ya,Yb,Ye,Yh,Yi,Yl,Y7,Y8,Y9,Va,Vt,V5,Uk,Un,Up,U8,Kq,U4,U3,Hi]))
end Go.Am.Ty
set_option linter.unusedSimpArgs false
set_option linter.unusedVariables false
set_option maxHeartbeats 1000000
namespace Go.Am.Ty
open Go.Proofs Go.Rose Go.Rose.Rose
theorem less_not (x y : List UInt8) : (Op.bytesLess x y || x == y) = !Op.bytesLess y x := by
  rw [bytesLess_eq, bytesLess_eq, Bool.eq_iff_iff]
  simp only [Bool.or_eq_true, decide_eq_true_eq, beq_iff_eq, Bool.not_eq_true', decide_eq_false_iff_not, List.not_lt]
  constructor
  · rintro (h | rfl)
    · exact List.le_of_lt h
    · exact List.le_refl _
  · intro h
    rcases List.le_iff_lt_or_eq.1 h with h | h
    · exact .inl h
    · exact .inr h
theorem less_nil (x : List UInt8) : Op.bytesLess x [] = false := by
  rw [bytesLess_eq]
  simp
theorem isRow_eq (p : Node) : Il p = Ml p := rfl
theorem lab_bad {p x prev : Node} {k m : Nat} {last : List UInt8} (hn : B5 p = true) (hm : m = ar p) (hk : k < m) (hl0 : k = 0 → last = []) (hl1 : 0 < k → last = prev.name) :
    labK p x prev (ltB 0 (k : Int)) ((k : Int) == (m : Int) - 1) = !Ac p k x last := by
  unfold labK Ac
  rw [isRow_eq]
  cases h9 : (x.kind == 9) with
  | true =>
    simp only [cond_true]
    cases hr : Ml p with
    | false => rfl
    | true =>
      have hpn := numb_row hn hr
      have hmn : (m : Int) = p.n := by
        have h1 := D1 hn
        rw [hm, ← h1]
        unfold Pu
        unfold Ml at hr
        rw [Bool.or_eq_true, beq_iff_eq, beq_iff_eq] at hr
        rw [if_neg (by omega), if_pos hr]
      rcases Tc (k : Int) (p.n - 1) with ⟨h1, h2⟩ | ⟨h1, h2⟩
      · have : ((k : Int) == (m : Int) - 1) = false := by rw [beq_eq_false_iff_ne]; omega
        rw [h2, this]; rfl
      · have : ((k : Int) == (m : Int) - 1) = true := by rw [beq_iff_eq]; omega
        rw [h2, this]
        simp
  | false =>
    simp only [cond_false]
    have hcore : ∀ q : Bool, (q = true → x.name ≠ []) → (!(!q) && (!(!true && !(x.name == [])) && !(true && (ltB 0 (k : Int) && !Op.bytesLess prev.name x.name)))) = !cond (!q) true (Op.bytesLess x.name last || x.name == last) := by
      intro q hq
      cases q with
      | false => rfl
      | true =>
        rcases Nat.eq_zero_or_pos k with rfl | hk0
        · rw [hl0 rfl, less_nil]
          have : (x.name == []) = false := by rw [beq_eq_false_iff_ne]; exact hq rfl
          rw [this]
          rfl
        · have : ltB 0 (k : Int) = true := by rw [Pv]; omega
          rw [this, hl1 hk0, less_not]
          simp
    by_cases h6 : p.kind = 6
    · have hr : Ml p = true := by unfold Ml; simp [h6]
      have := hcore (D2 x.name) (fun h e => by rw [e] at h; cases h)
      simp only [labB, h6, hr, cond_true] at this ⊢
      simpa using this
    · by_cases h7 : p.kind = 7
      · have hr : Ml p = true := by unfold Ml; simp [h7]
        have := hcore (isTag x.name) (fun h e => by rw [e] at h; cases h)
        simp only [labB, h7, hr, cond_true] at this ⊢
        simpa using this
      · have hr : Ml p = false := by unfold Ml; simp [h6, h7]
        simp only [labB, if_neg h6, if_neg h7, hr, cond_false, beq_eq_false_iff_ne.2 h6, beq_eq_false_iff_ne.2 h7]
        cases (x.name == []) <;> rfl
end Go.Am.Ty
set_option linter.unusedSimpArgs false
set_option linter.unusedVariables false
set_option maxHeartbeats 1000000
namespace Go.Am.Ty
open Go.Proofs Go.Rose Go.Rose.Rose
def kidN (ks : List (Rose Node)) (q : Nat) : Node := (ks.getD q (mk n0 [])).root
def lastN (ks : List (Rose Node)) (last : List UInt8) (q : Nat) : List UInt8 := if q = 0 then last else (kidN ks (q - 1)).name
theorem lastN_succ {x : Rose Node} {xs : List (Rose Node)} {last : List UInt8} {q : Nat} : lastN (x :: xs) last (q + 1) = lastN xs x.root.name q := by
  unfold lastN kidN
  rw [if_neg (by omega)]
  cases q with
  | zero => rfl
  | succ q => rw [if_neg (by omega)]; rfl
theorem labZ_bad {p : Node} {ks : List (Rose Node)} (hn : B5 p = true) (hk : ks.length = ar p) : labZ p ks = true ↔ ∀ q, q < ks.length → Ac p q (kidN ks q) (lastN ks [] q) = false := by
  unfold labZ
  rw [List.all_eq_true]
  constructor
  · intro h q hq
    have := h q (List.mem_range.2 hq)
    rw [lab_bad hn hk hq (last := lastN ks [] q) (fun e => by subst e; rfl) (fun e => by unfold lastN; rw [if_neg (by omega)]; rfl)] at this
    rw [Bool.not_eq_true'] at this
    exact this
  · intro h q hq
    have hq := List.mem_range.1 hq
    rw [lab_bad hn hk hq (last := lastN ks [] q) (fun e => by subst e; rfl) (fun e => by unfold lastN; rw [if_neg (by omega)]; rfl)]
    have := h q hq
    unfold kidN at this
    rw [this]
    rfl
theorem not_le {t : List Node} {i : Nat} (h : i < t.length) : leB (t.length : Int) (i : Int) = false := by rw [Dk]; omega
mutual
theorem treeR_ok {t : List Node} (hN : Cp t) : ∀ {x : Rose Node} {i f : Nat}, At ar t i x → depth x ≤ f → labT x = true → La t f i = (true, i + (nds x).length)
  | mk n ks, i, f, h, hd, hl => by
    cases f with
    | zero => rw [depth] at hd; omega
    | succ f =>
      have hlt := h.lt
      have hroot : t.getD i n0 = n := h.root n0
      obtain ⟨hks, hkl⟩ := h.kids
      simp only [kids, root] at hks hkl
      rw [depth] at hd
      rw [labT, Bool.and_eq_true] at hl
      have hnb : B5 n = true := by rw [← hroot]; exact hN _ (by simp [hlt])
      rw [La, not_le hlt, cond_false, hroot, hnb, cond_true, ← hkl]
      rw [kidsR_ok hN hks (by omega) hl.2 (fun q hq => by rw [Nat.zero_add]; exact (labZ_bad hnb hkl).1 hl.1 q hq), Ho, List.length_cons]
      congr 1
      omega
theorem kidsR_ok {t : List Node} (hN : Cp t) : ∀ {ks : List (Rose Node)} {p : Node} {k : Nat} {last : List UInt8} {j f : Nat}, Ats ar t j ks → depths ks ≤ f → labTs ks = true → (∀ q, q < ks.length → Ac p (k + q) (kidN ks q) (lastN ks last q) = false) →
    kidsR t (La t f) p ks.length k last j = (true, j + (ndss ks).length)
  | [], p, k, last, j, f, _, _, _, _ => by rw [List.length_nil, kidsR]; simp [ndss]
  | x :: xs, p, k, last, j, f, h, hd, hl, hb => by
    obtain ⟨hx, hxs⟩ := h.head
    have hj := hx.lt
    rw [depths] at hd
    rw [labTs, Bool.and_eq_true] at hl
    have hb0 : Ac p k x.root last = false := hb 0 (by simp)
    rw [List.length_cons, kidsR, not_le hj, cond_false, hx.root n0, hb0, cond_false, treeR_ok hN hx (by omega) hl.1]
    simp only [cond_true]
    rw [kidsR_ok hN hxs (by omega) hl.2 (fun q hq => by
      have := hb (q + 1) (by simp only [List.length_cons]; omega)
      rw [lastN_succ] at this
      rw [show k + 1 + q = k + (q + 1) by omega]
      exact this), ndss, List.length_append]
    congr 1
    omega
end
theorem ats_cons {t : List Node} {j : Nat} {x : Rose Node} {xs : List (Rose Node)} (hx : At ar t j x) (hxs : Ats ar t (j + (nds x).length) xs) : Ats ar t j (x :: xs) := by
  obtain ⟨h1, r, h2⟩ := hx
  obtain ⟨g1, s, g2⟩ := hxs
  refine ⟨⟨h1, g1⟩, s, ?_⟩
  rw [← List.drop_drop, h2, List.drop_left'] at g2
  · rw [h2, g2, ndss, List.append_assoc]
  · rfl
theorem at_of_ats {t : List Node} {i : Nat} {ks : List (Rose Node)} (hi : i < t.length) (hk : ks.length = ar (t.getD i n0)) (h : Ats ar t (i + 1) ks) : At ar t i (mk (t.getD i n0) ks) := by
  obtain ⟨g1, s, g2⟩ := h
  refine ⟨⟨hk, g1⟩, s, ?_⟩
  rw [List.drop_eq_getElem_cons hi, g2, Ho]
  simp [hi]
theorem kidsR_tree {t : List Node} {p : Node} {f : Nat} {tr : Nat → Bool × Nat} (htr : ∀ i j, tr i = (true, j) → ∃ x, At ar t i x ∧ j = i + (nds x).length ∧ depth x ≤ f ∧ labT x = true ∧ Cp (nds x)) : ∀ {m k : Nat} {last : List UInt8} {j e : Nat}, kidsR t tr p m k last j = (true, e) → j ≤ t.length →
    ∃ ks : List (Rose Node), ks.length = m ∧ Ats ar t j ks ∧ e = j + (ndss ks).length ∧ depths ks ≤ f ∧ labTs ks = true ∧ Cp (ndss ks) ∧ ∀ q, q < ks.length → Ac p (k + q) (kidN ks q) (lastN ks last q) = false
  | 0, k, last, j, e, h, hj => by
    rw [kidsR] at h
    injection h with _ h
    exact ⟨[], rfl, ⟨trivial, t.drop j, by simp [ndss]⟩, by simp [ndss, h], by simp [depths], rfl, fun n hn => by simp [ndss] at hn, fun q hq => by simp at hq⟩
  | m + 1, k, last, j, e, h, hj => by
    rw [kidsR] at h
    cases hl : leB (t.length : Int) (j : Int) with
    | true => rw [hl, cond_true] at h; cases h
    | false =>
      rw [hl, cond_false] at h
      cases hb : Ac p k (t.getD j n0) last with
      | true => rw [hb, cond_true] at h; cases h
      | false =>
        rw [hb, cond_false] at h
        obtain ⟨w, hw⟩ : ∃ w, tr j = w := ⟨_, rfl⟩
        obtain ⟨w1, w2⟩ := w
        rw [hw] at h
        simp only at h
        cases w1 with
        | false => rw [cond_false] at h; cases h
        | true =>
          rw [cond_true] at h
          obtain ⟨x, hx, rfl, hd, hla, hn⟩ := htr j w2 hw
          obtain ⟨ks, e1, e2, e3, e4, e5, e6, e7⟩ := kidsR_tree htr h hx.le
          have hro := hx.root n0
          refine ⟨x :: ks, by simp [e1], ats_cons hx e2, ?_, ?_, ?_, ?_, fun q hq => ?_⟩
          · rw [e3, ndss, List.length_append]; omega
          · rw [depths]; omega
          · rw [labTs, hla, e5]; rfl
          · intro n hm
            rw [ndss, List.mem_append] at hm
            rcases hm with hm | hm
            · exact hn n hm
            · exact e6 n hm
          · cases q with
            | zero => rw [hro] at hb; exact hb
            | succ q =>
              rw [lastN_succ, ← hro, show k + (q + 1) = k + 1 + q by omega]
              exact e7 q (by simpa using hq)
theorem treeR_tree {t : List Node} : ∀ {f i j : Nat}, La t f i = (true, j) → ∃ x, At ar t i x ∧ j = i + (nds x).length ∧ depth x ≤ f ∧ labT x = true ∧ Cp (nds x)
  | 0, i, j, h => by rw [La] at h; cases h
  | f + 1, i, j, h => by
    rw [La] at h
    cases hl : leB (t.length : Int) (i : Int) with
    | true => rw [hl, cond_true] at h; cases h
    | false =>
      rw [hl, cond_false] at h
      rw [Dk] at hl
      have hi : i < t.length := by omega
      cases hnb : B5 (t.getD i n0) with
      | false => rw [hnb, cond_false] at h; cases h
      | true =>
        rw [hnb, cond_true] at h
        obtain ⟨ks, e1, e2, e3, e4, e5, e6, e7⟩ := kidsR_tree (f := f) (fun i j h => treeR_tree h) h (by omega)
        refine ⟨mk (t.getD i n0) ks, at_of_ats hi e1 e2, ?_, ?_, ?_, ?_⟩
        · rw [e3, Ho, List.length_cons]; omega
        · rw [depth]; omega
        · rw [labT, Bool.and_eq_true]
          exact ⟨(labZ_bad hnb e1).2 fun q hq => by have := e7 q hq; rwa [Nat.zero_add] at this, e5⟩
        · intro n hm
          rw [Ho] at hm
          rcases List.mem_cons.1 hm with rfl | hm
          · exact hnb
          · exact e6 n hm
theorem right_same (t : List Node) : A7 t = P8 t := by
  rw [Bool.eq_iff_iff]
  unfold A7
  constructor
  · intro h
    rw [Bool.and_eq_true, Bool.and_eq_true, beq_iff_eq, Bool.not_eq_true'] at h
    obtain ⟨h1, h2, h3⟩ := h
    obtain ⟨x, hx, e, hd, hl, hn⟩ := treeR_tree (t := t) (f := 100) (i := 0) (j := (La t 100 0).2) (by rw [← h2])
    unfold Ny at h1
    simp only [Bool.or_eq_false_iff, beq_eq_false_iff_ne, Bool.not_eq_false', beq_iff_eq, Nd] at h1
    obtain ⟨⟨⟨g1, g2⟩, g3⟩, g4⟩ := h1
    have hro := hx.root n0
    have ht : t = nds x := by
      obtain ⟨_, r, h5⟩ := hx
      rw [List.drop_zero] at h5
      have h6 := congrArg List.length h5
      rw [List.length_append] at h6
      have : r = [] := List.length_eq_zero_iff.1 (by omega)
      rw [h5, this, List.append_nil]
    rw [ht]
    exact right3_rt ⟨hx.1, hn, hd, hl, by rw [← hro]; exact g3, by rw [← hro]; exact g4, by rw [← ht]; omega⟩
  · intro h
    obtain ⟨x, rfl, hx⟩ := Bi h
    have ha := Ns hx.wf
    have hro := ha.root n0
    rw [treeR_ok hx.numb ha hx.depth hx.lab]
    have hh : Ny (nds x) = false := by
      unfold P8 at h
      rw [Bool.and_eq_true, Bool.not_eq_true'] at h
      exact h.1
    rw [hh]
    simp
end Go.Am.Ty
set_option linter.unusedSimpArgs false
set_option linter.unusedVariables false
set_option maxHeartbeats 1000000
namespace Go.Am.Ty
open Go.Proofs Go.Rose Go.Rose.Rose
open Enc (enc dec)
structure VNode where
  kind : Int
  label : List UInt8
  name : List UInt8
  num : Int
  many : Int
  t : List Node
  u : List Node
  deriving DecidableEq
instance encVNode : Enc VNode := ⟨fun a => .agg [.int .i64 a.kind, .str a.label, .str a.name, .int .i64 a.num, .int .i64 a.many, .list 3 (a.t.map enc), .list 3 (a.u.map enc)], fun x => match x with
  | .agg [a, b, c, d, e, f, g] => ⟨a.i, b.s, c.s, d.i, e.i, f.l.map dec, g.l.map dec⟩
  | _ => ⟨0, [], [], 0, 0, [], []⟩, fun a => by
    have h : ∀ l : List Node, (l.map (enc : Node → D)).map dec = l := fun l => Bs
    cases a
    simp [D.l,D.i,D.s,h]⟩
instance szVNode : Sz VNode := ⟨7⟩
theorem szV : Sz.sz VNode = 7 := rfl
theorem Uw {n : VNode} : (enc n : D) = .agg [.int .i64 n.kind, .str n.label, .str n.name, .int .i64 n.num, .int .i64 n.many, .list 3 (n.t.map enc), .list 3 (n.u.map enc)] := rfl
theorem Uz {a : Int} {b c : List UInt8} {d e : Int} {f g : List Node} : (dec (.agg [.int .i64 a, .str b, .str c, .int .i64 d, .int .i64 e, .list 3 (f.map enc), .list 3 (g.map enc)]) : VNode) = ⟨a, b, c, d, e, f, g⟩ := Enc.dec_enc (VNode.mk a b c d e f g)
theorem Uy {a : Int} {b c : List UInt8} {d e : Int} {f g : List Node} : isE VNode (.agg [.int .i64 a, .str b, .str c, .int .i64 d, .int .i64 e, .list 3 (f.map enc), .list 3 (g.map enc)]) = True := eq_true (Lf (VNode.mk a b c d e f g))
theorem Ux {n : VNode} : VNode.mk n.kind n.label n.name n.num n.many n.t n.u = n := rfl
def arV (n : VNode) : Nat := if n.kind = 4 then n.many.toNat else if n.kind = 5 ∨ n.kind = 7 then 1 else 0
def P5 : Con := Ss (fun (_ : VNode) => True) (fun n => (arV n : Int))
noncomputable def ctx_manyV : Ctx := ⟨tab, lkC [], 60, lkB [], [], false⟩
theorem ctx_manyV_t : ctx_manyV.τ = tab := rfl
theorem ctx_manyV_d : ctx_manyV.dp = 60 := rfl
theorem good_manyV : Gj Tryz.prog (51, P5) := by
  refine ⟨U7 Tryz.func51 (by kernel_rfl) rfl, ?_⟩
  have K : Ky Tryz.prog ctx_manyV := Kd K6 Ki (by simp) (by simp)
  obtain ⟨c, hc⟩ : ∃ c, Tryz.f51.body = some c := ⟨_, rfl⟩
  refine Ke K Tryz.func51 hc [.tmp 2] rfl 13 rfl (fun cvs hpre => ?_)
  change P5.pre cvs at hpre
  unfold P5 at hpre
  obtain ⟨n, rfl, -⟩ := Ha hpre
  simp only [Tryz.f51, Option.some.injEq] at hc
  subst hc
  (sym =>
   simp [Uw,Uz,Uy,Ux,ctx_manyV_t,ctx_manyV_d,P5.eq_def,Za,Zb,Zc,Ze,Zf,Zg,Zo,Zp,Zq,Zs,Zu,Zv,Zx,Z7,Qb,Qd,Ql,Qm,Qn,Qo,Qp,Qq,Qs,Q1,Q2,Q4,Q8,Jh,Ji,Jk,Jw,J3,J4,Xf,Xs,Xu,X3,X4,X6,X7,X8,Wb,Wc,Wf,Wh,Wi,Wj,Wt,Wu,Wv,Ww,Wy,W0,W4,W5,W6,W7,W8,W9,Ye,Yi,Yq,Yx,Y7,Y8,Y9,Va,Vb,Vc,V4,Uk,Um,Un,U8,Kb]
   tactic =>
    try simp only [U1] at *
    try simp only [nc2] at *
    try simp (maxSteps := 4000000) only [Uw,Uz,Uy,Ux,U9]
    unfold arV
    repeat' (first | with_reducible assumption | with_reducible refine And.intro ?_ ?_ | intro _ | omega | (rw [U0]; omega))
    all_goals first
      | (rename_i h4; rw [if_pos h4]; unfold maxI; split <;> omega)
      | (rename_i h4 h5; rw [if_neg h4, if_pos (.inl h5)]; rfl)
      | (rename_i h4 h5 h7; rw [if_neg h4, if_pos (.inr h7)]; rfl)
      | (rename_i h4 h5 h7; rw [if_neg h4, if_neg (by omega)]; rfl))
def Hp : Con := Ss (fun (_ : VNode) => True) (fun n => (arV n : Int))
noncomputable def ctx_many19 : Ctx := ⟨tab, lkC [], 60, lkB [], [], false⟩
theorem ctx_many19_t : ctx_many19.τ = tab := rfl
theorem ctx_many19_d : ctx_many19.dp = 60 := rfl
theorem good_many19 : Gj Tryz.prog (44, Hp) := by
  refine ⟨U7 Tryz.func44 (by kernel_rfl) rfl, ?_⟩
  have K : Ky Tryz.prog ctx_many19 := Kd K6 Ki (by simp) (by simp)
  obtain ⟨c, hc⟩ : ∃ c, Tryz.f44.body = some c := ⟨_, rfl⟩
  refine Ke K Tryz.func44 hc [.tmp 2] rfl 13 rfl (fun cvs hpre => ?_)
  change Hp.pre cvs at hpre
  unfold Hp at hpre
  obtain ⟨n, rfl, -⟩ := Ha hpre
  simp only [Tryz.f44, Option.some.injEq] at hc
  subst hc
  (sym =>
   simp [Uw,Uz,Uy,Ux,ctx_many19_t,ctx_many19_d,Hp.eq_def,Za,Zb,Zc,Ze,Zf,Zg,Zo,Zp,Zq,Zs,Zu,Zv,Zx,Z7,Qb,Qd,Ql,Qm,Qn,Qo,Qp,Qq,Qs,Q1,Q2,Q4,Q8,Jh,Ji,Jk,Jw,J3,J4,Xf,Xs,Xu,X3,X4,X6,X7,X8,Wb,Wc,Wf,Wh,Wi,Wj,Wt,Wu,Wv,Ww,Wy,W0,W4,W5,W6,W7,W8,W9,Ye,Yi,Yq,Yx,Y7,Y8,Y9,Va,Vb,Vc,V4,Uk,Um,Un,U8,Kb]
   tactic =>
    try simp only [U1] at *
    try simp only [nc2] at *
    try simp (maxSteps := 4000000) only [Uw,Uz,Uy,Ux,U9]
    unfold arV
    repeat' (first | with_reducible assumption | with_reducible refine And.intro ?_ ?_ | intro _ | omega | (rw [U0]; omega))
    all_goals first
      | (rename_i h4; rw [if_pos h4]; unfold maxI; split <;> omega)
      | (rename_i h4 h5; rw [if_neg h4, if_pos (.inl h5)]; rfl)
      | (rename_i h4 h5 h7; rw [if_neg h4, if_pos (.inr h7)]; rfl)
      | (rename_i h4 h5 h7; rw [if_neg h4, if_neg (by omega)]; rfl))
end Go.Am.Ty
set_option linter.unusedSimpArgs false
set_option linter.unusedVariables false
set_option maxHeartbeats 1000000
namespace Go.Am.Ty
open Go.Proofs Go.Rose Go.Rose.Rose
open Enc (enc dec)
structure PS where
  s : List UInt8
instance encPS : Enc PS := ⟨fun p => .ptr 1 (.str p.s), fun x => match x with
  | .ptr _ y => ⟨y.s⟩
  | _ => ⟨[]⟩, fun p => rfl⟩
theorem enc_PS {s : List UInt8} : (enc (PS.mk s) : D) = .ptr 1 (.str s) := rfl
theorem PS_s {s : List UInt8} : (PS.mk s).s = s := rfl
theorem dec_PS {s : List UInt8} : (dec (.ptr 1 (.str s)) : PS) = ⟨s⟩ := rfl
theorem isE_PS {s : List UInt8} : isE PS (.ptr 1 (.str s)) = True := eq_true rfl
def O8 (t : List Node) (s : List UInt8) (i : Int) : Bool := (t.getD i.toNat n0).name == s
def Tv : Con := con3 (fun (i : Int) (p : PL) (_ : PS) => 0 ≤ i ∧ i < p.l.length) (fun i p s => O8 p.l s.s i)
noncomputable def Fc : Ctx := ⟨tab, lkC [], 60, lkB [], [], false⟩
theorem ctx_FieldF_t : Fc.τ = tab := rfl
theorem ctx_FieldF_c : Fc.Γ = lkC [] := rfl
theorem ctx_FieldF_d : Fc.dp = 60 := rfl
theorem ctx_FieldF_b : Fc.Δ = lkB [] := rfl
theorem ctx_FieldF_w : Fc.wr = false := rfl
theorem good_FieldF : Gj Tryz.prog (80, Tv) := by
  refine ⟨U7 Tryz.func80 (by kernel_rfl) rfl, ?_⟩
  have K : Ky Tryz.prog Fc := Kd K6 Ki (by simp) (by simp)
  obtain ⟨c, hc⟩ : ∃ c, Tryz.f80.body = some c := ⟨_, rfl⟩
  refine Ke K Tryz.func80 hc [.tmp 4] rfl 12 rfl (fun cvs hpre => ?_)
  change Tv.pre cvs at hpre
  unfold Tv at hpre
  obtain ⟨i, ⟨t⟩, ⟨s⟩, rfl, h0, h1⟩ := con3_pre hpre
  simp only at h0 h1
  obtain ⟨i, rfl⟩ : ∃ n : Nat, i = n := ⟨i.toNat, by omega⟩
  have hil : i < t.length := by omega
  have hel := Kf n0 hil
  have hf : O8 t s i = ((t.getD i n0).name == s) := rfl
  simp only [Tryz.f80, Option.some.injEq] at hc
  subst hc
  (sym =>
   simp [enc_PL,enc_PS,Nu,dec_PS,Tz,PS_s,hel,hf,Int.toNat_natCast,Uu,Us,Uv,Ur,szN,Ut,ctx_FieldF_t,ctx_FieldF_c,ctx_FieldF_d,ctx_FieldF_b,ctx_FieldF_w,Tv.eq_def,Za,Zb,Zc,Ze,Zf,Zh,Zi,Zj,Zk,Zl,Zm,Zo,Zp,Zq,Zs,Zv,Zx,Zy,Qb,Qd,Qn,Qo,Qp,Qq,Qr,Qs,Q1,Q2,Q4,Q5,Q6,Q8,Jk,Jw,J3,J4,Xf,Xw,X4,X5,X6,Wb,Wc,Wd,We,Wf,Wg,Wh,Wi,Wj,Wp,Wt,Wu,Wv,Ww,Wy,W0,W4,W5,W6,W7,W8,W9,Ye,Yg,Yh,Yk,Yl,Ym,Yu,Yv,Yw,Yx,Yy,Y7,Y8,Y9,Va,Vb,Vc,Vh,V5,Ul,Um,Un,Uo,Up,Uq,U8,Kq,U4,U3]
   tactic =>
    try simp only [U1] at *
    try simp only [nc2] at *
    try simp (maxSteps := 4000000) only [enc_PL,enc_PS,Nu,dec_PS,Tz,PS_s,hel,hf,Int.toNat_natCast,Uu,Us,Uv,Ur,szN,Ut,U9]
    repeat' (first | with_reducible assumption | with_reducible refine And.intro ?_ ?_ | intro _ | omega | (rw [U0]; omega))
    all_goals first
      | (with_reducible refine Kl ?_; kernel_rfl)
      | omega
      | rfl)
structure FieldC where
  t : List Node
  s : List UInt8
instance encFieldC : Enc FieldC := ⟨fun p => .clo 80 [.ptr 1 (.list 3 (p.t.map enc)), .ptr 1 (.str p.s)], fun x => match x with
  | .clo _ [.ptr _ y, .ptr _ z] => ⟨y.l.map dec, z.s⟩
  | _ => ⟨[], []⟩, fun p => by
    have h : ∀ l : List Node, (l.map (enc : Node → D)).map dec = l := fun l => Bs
    obtain ⟨l, s⟩ := p
    simp [D.l,D.s,h]⟩
theorem Ey {t : List Node} {s : List UInt8} : (enc (FieldC.mk t s) : D) = .clo 80 [.ptr 1 (.list 3 (t.map enc)), .ptr 1 (.str s)] := rfl
theorem dec_FieldC {t : List Node} {s : List UInt8} : (dec (.clo 80 [.ptr 1 (.list 3 (t.map enc)), .ptr 1 (.str s)]) : FieldC) = ⟨t, s⟩ := Enc.dec_enc (FieldC.mk t s)
theorem Ei {t : List Node} {s : List UInt8} : (FieldC.mk t s).t = t := rfl
theorem Ej {t : List Node} {s : List UInt8} : (FieldC.mk t s).s = s := rfl
def N1 : Con := Bg (fun (l : Sl Int) (f : FieldC) => l.l.length ≤ 9223372036854775807 ∧ ∀ x ∈ l.l, 0 ≤ x ∧ x < f.t.length) (fun l f => idxP (O8 f.t f.s) l.l)
noncomputable def Bx : Ctx := ⟨tab, lkC [(80, Tv)], 60, lkB [], [], false⟩
theorem Sk : Bx.τ = tab := rfl
theorem Iy : Bx.Γ = lkC [(80, Tv)] := rfl
theorem C6 : Bx.dp = 60 := rfl
theorem Iz : Bx.Δ = lkB [] := rfl
theorem ctx_indexFuncInt_w : Bx.wr = false := rfl
set_option maxRecDepth 100000 in
theorem good_indexFuncInt : Gj Tryz.prog (79, N1) := by
  refine ⟨U7 Tryz.func79 (by kernel_rfl) rfl, ?_⟩
  have K : Ky Tryz.prog Bx := Kd K6 Ki (by
    intro p hp
    simp only [List.mem_cons, List.not_mem_nil, or_false] at hp
    rcases hp with rfl
    · exact good_FieldF) (by simp)
  obtain ⟨c, hc⟩ : ∃ c, Tryz.f79.body = some c := ⟨_, rfl⟩
  refine Ke K Tryz.func79 hc [.tmp 4] rfl 19 rfl (fun cvs hpre => ?_)
  change N1.pre cvs at hpre
  unfold N1 at hpre
  obtain ⟨⟨l⟩, ⟨t, s⟩, rfl, hl, hin⟩ := Gi hpre
  simp only at hl hin
  clear hpre
  simp only [Tryz.f79, Option.some.injEq] at hc
  subst hc
  (sym =>
   simp [Ey,Uu,Us,Uv,Ur,szN,Ut,Sk,N1.eq_def,Za,Zb,Zc,Ze,Zf,Zo,Z6,Qq,Qs,Q1,Q2,Q4,Jw,J3,J4,Xv,X4,X6,X8,X9,Wc,Wf,Wh,Wi,Wj,Wt,Wu,Wv,Ww,Wy,W0,W6,W7,Yx,Y0,Y1,Y4,Y7,Y8,Y9,Va,Vb,Vc,Vj,Vu,V4,Um,Up,U8,H9,Hi]
   tactic =>
    try simp only [U1] at *
    try simp only [nc2] at *
    try simp (maxSteps := 4000000) only [Ey,Uu,Us,Uv,Ur,szN,Ut,U9]
    refine Km [4, 5, 9, 10, 11, 12, 13, 14, 15, 16, 17, 18] (fun k : Nat => [(8, .d (.int .i64 k))]) (fun k : Nat => []) (fun k : Nat => k ≤ l.length ∧ ∀ j, j < k → O8 t s (l.getD j 0) = false) (fun k : Nat => l.length - k) 0 ?_ ?_ ?_
    · simp
    · ((try simp only [U2, Ka, U6, Kg, upd, Kh, Ko, Gd, Nat.reduceDiv, Nat.reduceMod, Nat.reduceMul, Nat.reduceAdd, Nat.reduceEqDiff, List.set_cons_zero, List.set_cons_succ, if_true, if_false, reduceIte]); (first | refine Wk.of_fl ?_ | skip); simp only [Wk, wkK, Gl, wkT, wk1, AV.kept, keptAll, wkO, lk, U5, and_true, true_and, and_self, Nat.reduceEqDiff, Nat.reduceLeDiff, if_true, if_false, reduceIte, reduceCtorEq, Option.isSome, false_implies]; try simp [Wk, wkK, wkT, wk1, AV.kept, keptAll, wkO, lk, U5])
    rintro k ⟨hk, hno⟩
    rcases Ks k l.length with ⟨hlt, hlb⟩ | ⟨hlt, hlb⟩
    · have q1 := Kf (0 : Int) hlt
      have hx := hin (l.getD k 0) (by simp [hlt])
      obtain ⟨v, hv⟩ : ∃ v, l.getD k 0 = v := ⟨_, rfl⟩
      rw [hv] at q1 hx
      cases hs : O8 t s v with
      | false =>
        (sym =>
         simp [hlb,q1,hs,Ey,Nu,N6,Tz,dec_PS,isE_PS,PS_s,Uu,Us,Uv,Ur,szN,Ut,Sk,Iy,C6,Iz,ctx_indexFuncInt_w,Tv.eq_def,Zb,Zc,Ze,Zf,Zg,Zo,Zp,Zq,Zv,Zy,Z9,Qa,Qb,Qd,Qe,Qf,Qq,Qs,Q1,Q2,Q4,Q8,Jf,Jj,Jl,Jy,Jz,J0,Xf,Xw,X3,X4,X6,X7,X8,Wc,Wf,Wh,Wi,Wj,Wt,Wu,Wx,Wz,W0,W4,W5,Yd,Ye,Yi,Ym,Yt,Yx,Yy,Y0,Y1,Y4,Y7,Y8,Y9,Va,Vb,Vc,Vh,Vm,Vr,Vt,Vu,V4,Uk,Ul,Um,Un,Uo,Up,U8,H9,Hi]
         tactic =>
          try simp only [U1] at *
          try simp only [nc2] at *
          try simp (maxSteps := 4000000) only [hlb,q1,hs,Ey,Nu,N6,Tz,dec_PS,isE_PS,PS_s,Uu,Us,Uv,Ur,szN,Ut,U9]
          repeat' (first | with_reducible assumption | with_reducible refine And.intro ?_ ?_ | intro _ | omega | (rw [U0]; omega))
          refine ⟨k + 1, by ((try simp only [U2, Ka, U6, Kg, upd, Kh, Ko, Gd, Nat.reduceDiv, Nat.reduceMod, Nat.reduceMul, Nat.reduceAdd, Nat.reduceEqDiff, List.set_cons_zero, List.set_cons_succ, if_true, if_false, reduceIte]); (first | refine Wk.of_fl ?_ | skip); simp only [Wk, wkK, Gl, wkT, wk1, AV.kept, keptAll, wkO, lk, U5, and_true, true_and, and_self, Nat.reduceEqDiff, Nat.reduceLeDiff, if_true, if_false, reduceIte, reduceCtorEq, Option.isSome, false_implies]; try simp [Wk, wkK, wkT, wk1, AV.kept, keptAll, wkO, lk, U5]), by omega, fun j hj => ?_, by omega⟩
          by_cases hjk : j = k
          · subst hjk; rw [hv]; exact hs
          · exact hno j (by omega))
      | true =>
        have hr := idxP_at 0 hlt hno (by rw [hv]; exact hs)
        (sym =>
         simp [hlb,q1,hs,hr,Ey,dec_FieldC,Nu,N6,Tz,dec_PS,isE_PS,PS_s,Ei,Ej,Uu,Us,Uv,Ur,szN,Ut,Sk,Iy,C6,Iz,Tv.eq_def,Zb,Zc,Ze,Zf,Zg,Zo,Zp,Zq,Zv,Zy,Z9,Qa,Qb,Qd,Qe,Qf,Qn,Qo,Qp,Qq,Qs,Q1,Q2,Q4,Q8,Jf,Jj,Jk,Jl,Jy,Jz,J0,Xf,Xw,X3,X4,X6,X7,X8,Wb,Wc,Wf,Wh,Wi,Wj,Wt,Wu,Wx,Wz,W0,W4,W5,Yd,Ye,Yi,Ym,Yt,Yx,Yy,Y0,Y1,Y4,Y7,Y8,Y9,Va,Vb,Vc,Vh,Vm,Vr,Vt,Vu,Uk,Um,Un,Uo,Up,U8,H9,Hi]
         tactic =>
          try simp only [U1] at *
          try simp only [nc2] at *
          try simp (maxSteps := 4000000) only [hlb,q1,hs,hr,Ey,dec_FieldC,Nu,N6,Tz,dec_PS,isE_PS,PS_s,Ei,Ej,Uu,Us,Uv,Ur,szN,Ut,U9]
          repeat' (first | with_reducible assumption | with_reducible refine And.intro ?_ ?_ | intro _ | omega | (rw [U0]; omega)))
    · have hr := idxP_none (p := O8 t s) (l := l) 0 (fun j hj => hno j (by omega))
      (sym =>
       simp [hlb,hr,dec_FieldC,Ei,Ej,Uu,Us,Uv,Ur,szN,Ut,Sk,C6,Zb,Zc,Ze,Zf,Zg,Qb,Qd,Qn,Qo,Qp,Qq,Qs,Q1,Q2,Q4,Q8,Jk,Jy,Jz,J0,Xf,X4,X6,X7,Wa,Wb,Wc,Wf,Wh,Wi,Wt,Wu,Yd,Ye,Yi,Y7,Y8,Y9,Va,Vt,V4,Ul,Um,Un,Uo,U8,H9,Hi]))
noncomputable def fieldX (x : Rose Node) (s : List UInt8) : Sl Node × Int := cond (x.root.kind == 0) (⟨[nB 0]⟩, 0) (cond (Ml x.root) (match x.kids.findIdx? (fun k => k.root.name == s) with
  | some j => (⟨clr (nds (x.kids.getD j (mk n0 [])))⟩, 0)
  | none => (⟨[]⟩, 9)) (⟨[]⟩, 9))
theorem kids_idx {t : List Node} {s : List UInt8} : ∀ {ks : List (Rose Node)} {q : Nat}, Ats ar t q ks → (M8 q ks).findIdx? (O8 t s) = ks.findIdx? (fun k => k.root.name == s)
  | [], q, _ => rfl
  | x :: xs, q, h => by
    obtain ⟨h1, h2⟩ := h.head
    rw [M8, List.findIdx?_cons, List.findIdx?_cons, kids_idx h2]
    have : O8 t s (q : Int) = (x.root.name == s) := by unfold O8; rw [Int.toNat_natCast, h1.root n0]
    rw [this]
def So : Con := Ss (fun (t : Sl Node) => 0 < t.l.length ∧ t.l.length ≤ 9223372036854775807) (fun t => Ml (t.l.getD 0 n0))
noncomputable def ctx_isRowP : Ctx := ⟨tab, lkC [], 60, lkB [], [], false⟩
theorem ctx_isRowP_t : ctx_isRowP.τ = tab := rfl
theorem ctx_isRowP_d : ctx_isRowP.dp = 60 := rfl
theorem good_isRowP : Gj Tryz.prog (81, So) := by
  refine ⟨U7 Tryz.func81 (by kernel_rfl) rfl, ?_⟩
  have K : Ky Tryz.prog ctx_isRowP := Kd K6 Ki (by simp) (by simp)
  obtain ⟨c, hc⟩ : ∃ c, Tryz.f81.body = some c := ⟨_, rfl⟩
  refine Ke K Tryz.func81 hc [.tmp 2] rfl 15 rfl (fun cvs hpre => ?_)
  change So.pre cvs at hpre
  unfold So at hpre
  obtain ⟨⟨t⟩, rfl, h0, h1⟩ := Ha hpre
  simp only at h0 h1
  have hel := el_map0 h0
  have hf : Ml (t.getD 0 n0) = ((t.getD 0 n0).kind == 6 || (t.getD 0 n0).kind == 7) := rfl
  simp only [Tryz.f81, Option.some.injEq] at hc
  subst hc
  (sym =>
   simp [hel,hf,Uu,Us,Uv,Ur,szN,Ut,ctx_isRowP_t,ctx_isRowP_d,So.eq_def,Za,Zb,Zc,Zd,Ze,Zf,Zo,Zp,Zq,Zs,Zt,Zv,Zx,Zy,Qb,Qd,Qn,Qo,Qp,Qq,Qs,Q1,Q2,Q4,Q8,Jk,Jw,J3,J4,Xf,Xu,X4,X6,Wb,Wc,Wf,Wh,Wi,Wj,Wt,Wu,Wv,Ww,Wy,W0,W6,W7,W8,W9,Ye,Yi,Ym,Yt,Yw,Yy,Y0,Y1,Y7,Y8,Y9,Va,Vb,Vc,Vj,Vs,Vu,V4,V5,Uk,Ul,Um,Un,Up,U8,U4,U3]
   tactic =>
    try simp only [U1] at *
    try simp only [nc2] at *
    try simp (maxSteps := 4000000) only [hel,hf,Uu,Us,Uv,Ur,szN,Ut,U9]
    repeat' (first | with_reducible assumption | with_reducible refine And.intro ?_ ?_ | intro _ | omega | (rw [U0]; omega))
    all_goals simp_all)
end Go.Am.Ty
