/- Contracts of functions that the law reaches, and plain laws. Conditions: those that each contract states. -/
import Derived.Test.YtecgdmiigdfgdaaGreatK4
set_option linter.unusedSimpArgs false
set_option linter.unusedVariables false
set_option maxHeartbeats 2000000
namespace Go.Am.Ty
open Go.Proofs Go.Rose Go.Rose.Rose
open Enc (enc dec)
abbrev dv : Rose VNode := mk v0 []
mutual
def fitsR : Rose VNode → Rose Node → Bool
  | mk n ks, t => cond (n.kind == 6) (t.root.kind == 0 || t.root.kind == 5)
      (cond (n.kind == 7) (Gp n.u (nds t) || (t.root.kind == 0 && Gp n.u Fx))
        (cond (n.kind == 4 || n.kind == 5) (match Gk n ks t with
          | none => false
          | some l => fitsRs ks l) (t.root.kind == 0 || N9 n t.root.kind)))
def fitsRs : List (Rose VNode) → List (Rose Node) → Bool
  | [], _ => true
  | k :: ks, l => fitsR k (l.headD Gu) && fitsRs ks l.tail
end
def dynFT : Rose Node := mk n5 [Gu, Gu]
theorem Er : nds dynFT = Fx := rfl
def Ps (t : Rose Node) : Rose Node := cond (t.root.kind == 0) dynFT t
def relabT : Rose VNode → Rose VNode
  | mk n ks => mk (relab n) ks
theorem nds_relabT : ∀ x : Rose VNode, nds (relabT x) = relabL (nds x)
  | mk n ks => rfl
def Av (lab : Int) (x : Rose VNode) (t u : Rose Node) : Rose VNode := mk ⟨7, x.root.label, [], lab, 0, (nds t).map Hx, (nds u).map Hx⟩ [relabT x]
def funR (lab : Int) (x : Rose VNode) (t u : Rose Node) : Option (Rose VNode) :=
  cond ((Ps u).root.kind == 5) (cond (Gp (nds (Ps t)) (nds (Ps u))) (some x) (some (Av lab x (Ps t) (Ps u)))) none
mutual
def castR (lab : Int) : Rose VNode → Rose Node → Rose Node → Option (Rose VNode)
  | mk n ks, t, u => cond (Gp (nds t) (nds u)) (some (mk n ks))
      (cond (H4 n) (funR lab (mk n ks) t u)
        (cond (n.kind == 4 || n.kind == 5) (match Gk n ks t, Gk n ks u with
          | some a, some b => (castRs lab ks a b).map (mk n)
          | _, _ => none) (cond (!(u.root.kind == 0) && !N9 n u.root.kind) none (some (mk n ks)))))
def castRs (lab : Int) : List (Rose VNode) → List (Rose Node) → List (Rose Node) → Option (List (Rose VNode))
  | [], _, _ => some []
  | k :: ks, a, b => match castR lab k (a.headD Gu) (b.headD Gu) with
    | none => none
    | some y => (castRs lab ks a.tail b.tail).map (y :: ·)
end
def Ek {β : Type} (f : Nat → Option β) : Nat → Option (List β)
  | 0 => some []
  | n + 1 => match Ek f n, f n with
    | some l, some y => some (l ++ [y])
    | _, _ => none
theorem A1 {β : Type} {f : Nat → Option β} : ∀ {n : Nat} {l : List β}, Ek f n = some l → l.length = n
  | 0, l, h => by injection h with h; rw [← h]; rfl
  | n + 1, l, h => by
    rw [Ek] at h
    cases h1 : Ek f n with
    | none => rw [h1] at h; cases h
    | some l' =>
      cases h2 : f n with
      | none => rw [h1, h2] at h; cases h
      | some y =>
        rw [h1, h2] at h
        injection h with h
        rw [← h, List.length_append, A1 h1]
        rfl
theorem seqO_none {β : Type} {f : Nat → Option β} {k : Nat} (h : f k = none) : ∀ {n : Nat}, k < n → Ek f n = none
  | 0, hk => by omega
  | n + 1, hk => by
    rw [Ek]
    by_cases e : k = n
    · subst e
      rw [h]
      cases Ek f k <;> rfl
    · rw [seqO_none h (n := n) (by omega)]
theorem seqO_at {β : Type} {f : Nat → Option β} : ∀ {n : Nat} {l : List β}, Ek f n = some l → ∀ j (h : j < l.length), f j = some l[j]
  | 0, l, h, j, hj => by injection h with h; subst h; simp at hj
  | n + 1, l, h, j, hj => by
    rw [Ek] at h
    cases h1 : Ek f n with
    | none => rw [h1] at h; cases h
    | some l' =>
      cases h2 : f n with
      | none => rw [h1, h2] at h; cases h
      | some y =>
        rw [h1, h2] at h
        injection h with h
        subst h
        have hl := A1 h1
        by_cases e : j < l'.length
        · rw [List.getElem_append_left e]
          exact seqO_at h1 j e
        · have : j = n := by rw [List.length_append, hl] at hj; simp at hj; omega
          subst this
          rw [List.getElem_append_right (by omega)]
          simp [h2]
theorem seqO_of {β : Type} {f : Nat → Option β} : ∀ {n : Nat} {l : List β}, l.length = n → (∀ j (h : j < l.length), f j = some l[j]) → Ek f n = some l
  | 0, l, h, _ => by rw [List.eq_nil_of_length_eq_zero h]; rfl
  | n + 1, l, h, hf => by
    have hl : l = l.take n ++ [l[n]] := by
      conv => lhs; rw [← List.take_length (l := l), h]
      exact List.take_succ_eq_append_getElem (by omega)
    have h1 : Ek f n = some (l.take n) := seqO_of (by rw [List.length_take]; omega) (fun j hj => by
      rw [List.length_take] at hj
      rw [hf j (by omega)]
      simp)
    rw [Ek, h1, hf n (by omega)]
    simp only
    rw [← hl]
theorem seqO_iff {β : Type} {f : Nat → Option β} {n : Nat} {l : List β} : Ek f n = some l ↔ l.length = n ∧ ∀ j (h : j < l.length), f j = some l[j] :=
  ⟨fun h => ⟨A1 h, seqO_at h⟩, fun h => seqO_of h.1 h.2⟩
theorem I8 {lab : Int} : ∀ {ks : List (Rose VNode)} {a b : List (Rose Node)} {ys : List (Rose VNode)}, castRs lab ks a b = some ys ↔ ys.length = ks.length ∧ ∀ j (h : j < ys.length), castR lab (ks.getD j dv) (a.getD j Gu) (b.getD j Gu) = some ys[j]
  | [], a, b, ys => by
    rw [castRs]
    constructor
    · intro h
      injection h with h
      subst h
      exact ⟨rfl, fun j hj => by simp at hj⟩
    · rintro ⟨h, _⟩
      rw [List.eq_nil_of_length_eq_zero h]
  | k :: ks, a, b, ys => by
    rw [castRs]
    have hd : ∀ c : List (Rose Node), c.headD Gu = c.getD 0 Gu := fun c => by cases c <;> rfl
    have ht : ∀ (c : List (Rose Node)) j, c.tail.getD j Gu = c.getD (j + 1) Gu := fun c j => by cases c <;> rfl
    rw [hd, hd]
    constructor
    · intro h
      cases hc : castR lab k (a.getD 0 Gu) (b.getD 0 Gu) with
      | none => rw [hc] at h; cases h
      | some y =>
        rw [hc] at h
        simp only [Option.map_eq_some_iff] at h
        obtain ⟨zs, h1, rfl⟩ := h
        obtain ⟨g1, g2⟩ := I8.1 h1
        refine ⟨by simp [g1], fun j hj => ?_⟩
        cases j with
        | zero => exact hc
        | succ j =>
          have := g2 j (by simpa using hj)
          rw [ht, ht] at this
          exact this
    · rintro ⟨h1, h2⟩
      cases ys with
      | nil => simp at h1
      | cons y zs =>
        have h0 := h2 0 (by simp)
        simp only [List.getD_cons_zero, List.getElem_cons_zero] at h0
        rw [h0]
        simp only [Option.map_eq_some_iff]
        refine ⟨zs, I8.2 ⟨by simpa using h1, fun j hj => ?_⟩, rfl⟩
        have := h2 (j + 1) (by simpa using hj)
        rw [ht, ht]
        exact this
theorem castRs_seq {lab : Int} {ks : List (Rose VNode)} {a b : List (Rose Node)} : castRs lab ks a b = Ek (fun j => castR lab (ks.getD j dv) (a.getD j Gu) (b.getD j Gu)) ks.length := by
  apply Option.ext
  intro ys
  show castRs lab ks a b = some ys ↔ _ = some ys
  rw [I8, seqO_iff]
theorem Ex : ∀ {ks : List (Rose VNode)} {l : List (Rose Node)}, fitsRs ks l = (List.range ks.length).all fun j => fitsR (ks.getD j dv) (l.getD j Gu)
  | [], l => rfl
  | k :: ks, l => by
    have hd : l.headD Gu = l.getD 0 Gu := by cases l <;> rfl
    have ht : ∀ j, l.tail.getD j Gu = l.getD (j + 1) Gu := fun j => by cases l <;> rfl
    rw [fitsRs, Ex, List.length_cons, List.range_succ_eq_map, List.all_cons, List.all_map, hd]
    simp only [ht]
    rfl
theorem Se {n : VNode} {ks : List (Rose VNode)} {t : Rose Node} {l : List (Rose Node)} (h : Gk n ks t = some l) (hk : n.kind = 5 → ks.length = 1) : l.length = ks.length := by
  unfold Gk at h
  cases h0 : (t.root.kind == 0) with
  | true =>
    rw [h0, cond_true] at h
    injection h with h
    rw [← h, List.length_replicate]
  | false =>
    rw [h0, cond_false] at h
    cases h1 : (t.root.kind == 7 && n.kind == 5) with
    | true =>
      rw [h1, cond_true, Option.map_eq_some_iff] at h
      obtain ⟨y, _, rfl⟩ := h
      rw [Bool.and_eq_true, beq_iff_eq, beq_iff_eq] at h1
      rw [hk h1.2]
      rfl
    | false =>
      rw [h1, cond_false] at h
      cases h2 : (t.root.kind == 6 && (n.kind == 4 && t.root.n == (ks.length : Int))) with
      | true => rw [h2, cond_true] at h; exact fieldsR_len h
      | false => rw [h2, cond_false] at h; cases h
theorem fieldR_some {t y : Rose Node} {s : List UInt8} (h : Hb t s = some y) : ∃ j, ∃ hj : j < t.kids.length, y = M2 t.kids[j] ∧ t.kids[j].root.name = s := by
  unfold Hb at h
  rw [Option.map_eq_some_iff] at h
  obtain ⟨j, h1, h2⟩ := h
  rw [List.findIdx?_eq_some_iff_getElem] at h1
  obtain ⟨g1, g2, _⟩ := h1
  refine ⟨j, g1, ?_, by simpa using g2⟩
  rw [← h2]
  simp [g1]
theorem partsR_in {P : Rose Node → Prop} {n : VNode} {ks : List (Rose VNode)} {t : Rose Node} {l : List (Rose Node)} (h : Gk n ks t = some l) (h0 : P Gu) (hP : ∀ j (hj : j < t.kids.length), P (M2 t.kids[j])) : ∀ y ∈ l, P y := by
  have hf : ∀ {s y}, Hb t s = some y → P y := fun {s y} h => by
    obtain ⟨j, hj, rfl, _⟩ := fieldR_some h
    exact hP j hj
  have hfs : ∀ {ks l}, Hl t ks = some l → ∀ y ∈ l, P y := by
    intro ks
    induction ks with
    | nil =>
      intro l h
      rw [Hl] at h
      injection h with h
      subst h
      intro y hy
      cases hy
    | cons k ks ih =>
      intro l h
      rw [Hl] at h
      cases hk : Hb t k.root.label with
      | none => rw [hk] at h; cases h
      | some z =>
        rw [hk] at h
        simp only [Option.map_eq_some_iff] at h
        obtain ⟨l', h1, rfl⟩ := h
        intro y hy
        rcases List.mem_cons.1 hy with rfl | hy
        · exact hf hk
        · exact ih h1 y hy
  unfold Gk at h
  cases g0 : (t.root.kind == 0) with
  | true =>
    rw [g0, cond_true] at h
    injection h with h
    rw [← h]
    intro y hy
    rw [List.eq_of_mem_replicate hy]
    exact h0
  | false =>
    rw [g0, cond_false] at h
    cases h1 : (t.root.kind == 7 && n.kind == 5) with
    | true =>
      rw [h1, cond_true, Option.map_eq_some_iff] at h
      obtain ⟨y, h2, rfl⟩ := h
      intro z hz
      rw [List.mem_singleton] at hz
      rw [hz]
      exact hf h2
    | false =>
      rw [h1, cond_false] at h
      cases h2 : (t.root.kind == 6 && (n.kind == 4 && t.root.n == (ks.length : Int))) with
      | true => rw [h2, cond_true] at h; exact hfs h
      | false => rw [h2, cond_false] at h; cases h
def TyT (y : Rose Node) : Prop := wf ar y ∧ (nds y).length ≤ 1000000
theorem tyT_dyn : TyT Gu := ⟨⟨rfl, trivial⟩, by rw [nds_dynT]; decide⟩
theorem clrX_nlen (x : Rose Node) : (nds (M2 x)).length = (nds x).length := by rw [Fu]; cases nds x <;> rfl
theorem ndsN_get {ks : List (Rose Node)} {i : Nat} (h : i < ks.length) : (nds ks[i]).length ≤ (ndss ks).length := by
  induction ks generalizing i with
  | nil => simp at h
  | cons x xs ih =>
    simp only [ndss, List.length_append]
    cases i with
    | zero => simp
    | succ i => have := ih (i := i) (by simpa using h); simp only [List.getElem_cons_succ]; omega
theorem tyT_kid {t : Rose Node} (h : TyT t) {j : Nat} (hj : j < t.kids.length) : TyT (M2 t.kids[j]) := by
  obtain ⟨h1, h2⟩ := h
  rw [Rh] at h1
  refine ⟨wf_clrX (Oc h1.2 _ (List.getElem_mem hj)), ?_⟩
  rw [clrX_nlen]
  have := ndsN_get hj
  rw [Nc, List.length_cons] at h2
  omega
theorem El {n : VNode} {ks : List (Rose VNode)} {t : Rose Node} {l : List (Rose Node)} (ht : TyT t) (h : Gk n ks t = some l) : ∀ y ∈ l, TyT y :=
  partsR_in h tyT_dyn fun _ hj => tyT_kid ht hj
end Go.Am.Ty
set_option linter.unusedSimpArgs false
set_option linter.unusedVariables false
set_option maxHeartbeats 2000000
namespace Go.Am.Ty
open Go.Proofs Go.Rose Go.Rose.Rose
open Enc (enc dec)
def OneN (t : List Node) (y : Rose Node) : Prop := t = nds y ∧ TyT y
theorem OneN.at {t : List Node} {y : Rose Node} (h : OneN t y) : At ar t 0 y := by rw [h.1]; exact Ns h.2.1
theorem OneN.tree {t : List Node} {y : Rose Node} (h : OneN t y) : K1 ar t 0 = y := Gq h.at
theorem oneN_nds {y : Rose Node} (h : TyT y) : OneN (nds y) y := ⟨rfl, h⟩
noncomputable def N2 (n : Nat) : Con := Bg (fun (v : Sl VNode) (t : Sl Node) => v.l.length ≤ 1000000 ∧ (∃ x, Co v.l x) ∧ (∀ m ∈ v.l, L5 m) ∧ (∃ y, OneN t.l y) ∧ v.l.length < n) (fun v t => fitsR (K1 arV v.l 0) (K1 ar t.l 0))
theorem con_FitsV_zero : ∀ c, ¬ (N2 0).pre c := by
  intro c h
  unfold N2 at h
  obtain ⟨_, _, _, _, _, _, _, h⟩ := Gi h
  omega
theorem Od {l : List (Rose Node)} {k : Nat} (h : k < l.length) : (Mc l).getD k ⟨[]⟩ = ⟨nds l[k]⟩ := by
  unfold Mc
  simp [h]
theorem oneV_sub {x : Rose VNode} (hw : wf arV x) {i : Nat} (h : i < x.kids.length) : Co (nds x.kids[i]) x.kids[i] := by
  rw [Rh] at hw
  exact ⟨rfl, Oc hw.2 _ (List.getElem_mem h)⟩
theorem kid_memV {x : Rose VNode} {i : Nat} (h : i < x.kids.length) : ∀ m ∈ nds x.kids[i], m ∈ nds x := by
  intro m hm
  rw [Nc]
  refine List.mem_cons_of_mem _ ?_
  generalize x.kids = ks at h hm ⊢
  induction ks generalizing i with
  | nil => simp at h
  | cons y ys ih =>
    rw [ndss, List.mem_append]
    cases i with
    | zero => exact .inl hm
    | succ i => exact .inr (ih (by simpa using h) (by simpa using hm))
theorem kid_lenV {x : Rose VNode} {i : Nat} (h : i < x.kids.length) : (nds x.kids[i]).length < (nds x).length := by
  rw [Nc x, List.length_cons]
  have := ndss_get h
  omega
theorem range_succ_all {p : Nat → Bool} {k : Nat} : (List.range (k + 1)).all p = ((List.range k).all p && p k) := by
  rw [List.range_succ, List.all_append]
  simp
theorem kid1 {x : Rose VNode} (hw : wf arV x) (h : x.root.kind = 5) : x.kids.length = 1 := by
  rw [Rh] at hw
  rw [hw.1]
  unfold arV
  rw [if_neg (by omega), if_pos (.inl h)]
noncomputable def Ao (n : Nat) : Ctx := ⟨tab, lkC [(25, Kz), (53, Gr), (28, Ga), (29, Gb), (30, K9), (24, (N2 n))], 60, lkB [], [], false⟩
theorem Hy (n : Nat) : (Ao n).τ = tab := rfl
theorem Sa (n : Nat) : (Ao n).Γ = lkC [(25, Kz), (53, Gr), (28, Ga), (29, Gb), (30, K9), (24, (N2 n))] := rfl
theorem Mi (n : Nat) : (Ao n).dp = 60 := rfl
theorem Sb (n : Nat) : (Ao n).Δ = lkB [] := rfl
theorem To (n : Nat) : (Ao n).wr = false := rfl
set_option maxRecDepth 100000 in
theorem step_FitsV (n : Nat) (ih : Gj Tryz.prog (24, N2 n)) : Gj Tryz.prog (24, (N2 (n + 1))) := by
  refine ⟨U7 Tryz.func24 (by kernel_rfl) rfl, ?_⟩
  have K : Ky Tryz.prog (Ao n) := Kd K6 Ki (by
    intro p hp
    simp only [List.mem_cons, List.not_mem_nil, or_false] at hp
    rcases hp with rfl | rfl | rfl | rfl | rfl | rfl
    · exact Ip
    · exact good_dynamicV
    · exact good_isBaseV
    · exact good_partsV
    · exact good_kidsV
    · exact ih) (by simp)
  obtain ⟨c, hc⟩ : ∃ c, Tryz.f24.body = some c := ⟨_, rfl⟩
  refine Ke K Tryz.func24 hc [.tmp 4] rfl 99 rfl (fun cvs hpre => ?_)
  change (N2 (n + 1)).pre cvs at hpre
  unfold N2 at hpre
  obtain ⟨⟨v⟩, ⟨t⟩, rfl, hv, ⟨x, hx⟩, hS, ⟨y, hy⟩, hn⟩ := Gi hpre
  simp only at hv hx hS hy hn
  have hx1 := hx.tree
  have hy1 := hy.tree
  have hxl := hx.at.lt
  have hyl := hy.at.lt
  have hya := hy.at
  have htl : t.length ≤ 1000000 := by rw [hy.1]; exact hy.2.2
  have ev := Kf v0 hxl
  have et := Kf n0 hyl
  rw [hx.at.root v0] at ev
  rw [hya.root n0] at et
  have hSx : L5 x.root := by
    have := hS _ (Cs (d := v0) hxl)
    rw [hx.at.root v0] at this
    exact this
  obtain ⟨hs1, hs2⟩ := hSx
  obtain ⟨R, hR⟩ : ∃ R, fitsR x y = R := ⟨_, rfl⟩
  have hR2 := hR
  rw [show x = mk x.root x.kids by cases x; rfl, fitsR] at hR2
  rw [← hy.1] at hR2
  have hsub := @oneV_sub x hx.2
  have hmem := @kid_memV x
  have hlen := @kid_lenV x
  have hk1 := kid1 hx.2
  rw [← hx.1] at hmem hlen
  obtain ⟨ks, hks⟩ : ∃ ks, x.kids = ks := ⟨_, rfl⟩
  rw [hks] at hR2
  simp only [hks] at hsub hmem hlen hk1
  have hsl : (sls ks).length = ks.length := T0
  obtain ⟨m, hm⟩ : ∃ m, x.root = m := ⟨_, rfl⟩
  rw [hm] at ev hR2 hs1 hs2 hk1
  obtain ⟨p, hp⟩ : ∃ p, y.root = p := ⟨_, rfl⟩
  rw [hp] at et hR2
  have hdl : Fx.length ≤ 9223372036854775807 := by decide
  have htl2 : t.length ≤ 9223372036854775807 := by omega
  obtain ⟨dl, hDl⟩ : ∃ dl, dl = Fx := ⟨_, rfl⟩
  rw [← hDl] at hR2 hdl
  have hDl2 : Eh [n0] [n0] = dl := by rw [hDl]; rfl
  clear hpre hDl
  simp only [Tryz.f24, Option.some.injEq] at hc
  subst hc
  refine Kw 6 (of_decide_eq_true (by kernel_rfl)) ?_
  cases k6 : (m.kind == 6) with
  | true =>
    rw [k6, cond_true] at hR2
    (sym =>
     simp [hx1,hy1,ev,et,hR,k6,Uw,Uz,Uy,Ux,szV,Uu,Us,Uv,Ur,szN,Ut,Hy,Mi,N2.eq_def,Zb,Zc,Zd,Ze,Zf,Zg,Zo,Zp,Zq,Zs,Zt,Zv,Zx,Zy,Qb,Qd,Qn,Qo,Qp,Qq,Qs,Q1,Q2,Q4,Q8,Jk,Jw,J3,J4,J5,J6,J8,J9,Xb,Xc,Xf,Xn,Xo,Xv,X4,X6,X7,X8,Wb,Wc,Wf,Wh,Wi,Wj,Wt,Wu,Wv,Ww,Wy,W0,W6,W7,W8,W9,Ya,Yb,Ye,Yi,Ym,Yt,Yw,Yy,Y0,Y1,Y7,Y8,Vb,Vc,Vd,Ve,Vf,Vg,Vj,Vs,Vt,Vu,V4,V5,Uk,Ul,Um,Un,Up,U8,Kc,U4,Kr,U3,Kb,Gg]
     tactic =>
      try simp only [U1] at *
      try simp only [nc2] at *
      try simp (maxSteps := 4000000) only [hx1,hy1,ev,et,hR,k6,Uw,Uz,Uy,Ux,szV,Uu,Us,Uv,Ur,szN,Ut,U9]
      repeat' (first | with_reducible assumption | with_reducible refine And.intro ?_ ?_ | intro _ | omega | (rw [U0]; omega))
      all_goals first
        | omega
        | (rw [← hR2]; clear hR2 hR; simp_all; done)
        | skip)
  | false =>
  rw [k6, cond_false] at hR2
  cases k7 : (m.kind == 7) with
  | true =>
    rw [k7, cond_true] at hR2
    (sym =>
     simp [hx1,hy1,ev,et,hR,k6,k7,hDl2,Uw,Uz,Uy,Ux,szV,Uu,Us,Uv,Ur,szN,Ut,Hy,Sa,Mi,Sb,To,N2.eq_def,Kz.eq_def,Gr.eq_def,Ga.eq_def,K9.eq_def,Gb.eq_def,Zb,Zc,Zd,Ze,Zf,Zg,Zh,Zi,Zj,Zk,Zl,Zm,Zo,Zp,Zq,Zs,Zt,Zv,Zx,Zy,Z9,Qb,Qd,Qe,Qf,Qn,Qo,Qp,Qq,Qr,Qs,Q1,Q2,Q4,Q5,Q6,Q8,Jf,Jj,Jk,Jl,Jw,J3,J4,J5,J6,J8,J9,Xb,Xc,Xf,Xn,Xo,Xt,Xv,Xx,X4,X5,X6,X7,X8,Wb,Wc,Wd,We,Wf,Wg,Wh,Wi,Wj,Wp,Wq,Wr,Ws,Wt,Wu,Wv,Ww,Wx,Wy,Wz,W0,W4,W5,W6,W7,W8,W9,Ya,Yb,Ye,Yi,Ym,Yt,Yv,Yw,Yy,Y0,Y1,Y7,Y8,Vb,Vc,Vd,Ve,Vf,Vg,Vj,Vk,Vl,Vo,Vs,Vt,Vu,V4,V5,Uk,Ul,Um,Un,Uo,Up,Uq,U8,Kc,U4,Kr,U3,Kb,Gg]
     tactic =>
      try simp only [U1] at *
      try simp only [nc2] at *
      try simp (maxSteps := 4000000) only [hx1,hy1,ev,et,hR,k6,k7,hDl2,Uw,Uz,Uy,Ux,szV,Uu,Us,Uv,Ur,szN,Ut,U9]
      repeat' (first | with_reducible assumption | with_reducible refine And.intro ?_ ?_ | intro _ | omega | (rw [U0]; omega))
      all_goals first
        | (with_reducible refine Kl ?_; kernel_rfl)
        | omega
        | (rw [← hR2]; clear hR2 hR; simp_all; done)
        | skip)
  | false =>
  rw [k7, cond_false] at hR2
  cases k45 : (m.kind == 4 || m.kind == 5) with
  | false =>
    rw [k45, cond_false] at hR2
    rw [Bool.or_eq_false_iff] at k45
    obtain ⟨k4, k5⟩ := k45
    have n4 : (m.kind != 4) = true := by rw [bne, k4]; rfl
    have n5 : (m.kind != 5) = true := by rw [bne, k5]; rfl
    have zz1 := hx.at.root v0
    (sym =>
     simp [hx1,hy1,ev,et,hR,k6,k7,n4,n5,zz1,hm,Uw,Uz,Uy,Ux,szV,Uu,Us,Uv,Ur,szN,Ut,Hy,Sa,Mi,Sb,N2.eq_def,Kz.eq_def,Gr.eq_def,Ga.eq_def,K9.eq_def,Gb.eq_def,Zb,Zc,Zd,Ze,Zf,Zg,Zo,Zp,Zq,Zs,Zt,Zv,Zx,Zy,Z9,Qb,Qd,Qe,Qf,Qn,Qo,Qp,Qq,Qs,Q1,Q2,Q4,Q8,Jf,Jj,Jk,Jl,Jw,J3,J4,J5,J6,J8,J9,Xb,Xc,Xf,Xn,Xo,Xt,Xv,Xx,X4,X6,X7,X8,Wb,Wc,Wf,Wh,Wi,Wj,Wt,Wu,Wv,Ww,Wx,Wy,Wz,W0,W6,W7,W8,W9,Ya,Yb,Ye,Yi,Ym,Yt,Yw,Yy,Y0,Y1,Y7,Y8,Vb,Vc,Vd,Ve,Vf,Vg,Vh,Vj,Vm,Vo,Vs,Vt,Vu,V4,V5,Uk,Ul,Um,Un,Up,U8,Kc,U4,Kr,U3,Kb,Gg]
     tactic =>
      try simp only [U1] at *
      try simp only [nc2] at *
      try simp (maxSteps := 4000000) only [hx1,hy1,ev,et,hR,k6,k7,n4,n5,zz1,hm,Uw,Uz,Uy,Ux,szV,Uu,Us,Uv,Ur,szN,Ut,U9]
      repeat' (first | with_reducible assumption | with_reducible refine And.intro ?_ ?_ | intro _ | omega | (rw [U0]; omega))
      all_goals first
        | (with_reducible refine Kl ?_; kernel_rfl)
        | omega
        | (rw [← hR2]; clear hR2 hR; simp_all; done)
        | skip)
  | true =>
  rw [k45, cond_true] at hR2
  have h45 : m.kind = 4 ∨ m.kind = 5 := by simpa using k45
  have hkk : ks.length ≤ v.length := by rw [hx.1, Nc, List.length_cons, hks]; have := Oi ks; omega
  have hex : ∃ x, Co v x ∧ (x.root.kind = 4 ∨ x.root.kind = 5) := ⟨x, hx, by rw [hm]; exact h45⟩
  cases hpr : Gk m ks y with
  | none =>
    rw [hpr] at hR2
    simp only at hR2
    have hpx : A8 x y = (cond (p.kind == 7 && m.kind == 5) ⟨[⟨[]⟩]⟩ ⟨[]⟩, false) := by unfold A8; rw [hks, hm, hpr, hp]
    obtain ⟨gl, hgl⟩ : ∃ gl : Sl (Sl Node), cond (p.kind == 7 && m.kind == 5) ⟨[⟨[]⟩]⟩ ⟨[]⟩ = gl := ⟨_, rfl⟩
    rw [hgl] at hpx
    rcases h45 with h | h
    · have n4 : (m.kind != 4) = false := by rw [h]; rfl
      (sym =>
       simp [K5.eq_def,hx1,hy1,hks,hsl,ev,et,k6,k7,n4,hpx,Uw,Uz,Uy,Ux,szV,Uu,Us,Uv,Ur,szN,Ut,Hy,Sa,Mi,Sb,N2.eq_def,Kz.eq_def,Gr.eq_def,Ga.eq_def,K9.eq_def,Gb.eq_def,Zb,Zc,Zd,Ze,Zf,Zg,Zo,Zp,Zq,Zs,Zt,Zv,Zx,Zy,Z6,Z8,Z9,Qb,Qd,Qe,Qf,Qg,Qq,Qs,Q1,Q2,Q4,Q8,Q9,Ja,Jf,Jh,Ji,Jj,Jl,Jw,J3,J4,J5,J6,J8,J9,Xb,Xc,Xf,Xn,Xo,Xt,Xv,Xx,X3,X4,X6,X7,X8,X9,Wc,Wf,Wh,Wi,Wj,Wt,Wu,Wv,Ww,Wx,Wy,Wz,W0,W6,W7,W8,W9,Ya,Yb,Ye,Yi,Ym,Yt,Yw,Yy,Y0,Y1,Y6,Y7,Y8,Vb,Vc,Vd,Ve,Vf,Vg,Vj,Vo,Vs,Vt,Vu,V4,V5,Ul,Um,Un,Uo,Up,U8,Kc,U4,Kr,U3,Kb,Gg]
       tactic =>
        try simp only [U1] at *
        try simp only [nc2] at *
        try simp (maxSteps := 4000000) only [K5.eq_def,hx1,hy1,hks,hsl,ev,et,k6,k7,n4,hpx,Uw,Uz,Uy,Ux,szV,Uu,Us,Uv,Ur,szN,Ut,U9]
        repeat' (first | with_reducible assumption | with_reducible refine And.intro ?_ ?_ | intro _ | omega | (rw [U0]; omega))
        · exact ⟨y, hya⟩
        · exact ⟨x, hx⟩
        refine Km [8, 9, 84, 85, 86, 87, 88, 89, 90, 91, 92, 93, 94, 95, 96, 97] (fun k : Nat => [(7, .d (.bool false)), (83, .d (.int .i64 k))]) (fun k : Nat => []) (fun k : Nat => k ≤ ks.length) (fun k : Nat => ks.length - k) 0 ?_ ?_ ?_
        · simp
        · ((try simp only [U2, Ka, U6, Kg, upd, Kh, Ko, Gd, Nat.reduceDiv, Nat.reduceMod, Nat.reduceMul, Nat.reduceAdd, Nat.reduceEqDiff, List.set_cons_zero, List.set_cons_succ, if_true, if_false, reduceIte]); (first | refine Wk.of_fl ?_ | skip); simp only [Wk, wkK, Gl, wkT, wk1, AV.kept, keptAll, wkO, lk, U5, and_true, true_and, and_self, Nat.reduceEqDiff, Nat.reduceLeDiff, if_true, if_false, reduceIte, reduceCtorEq, Option.isSome, false_implies]; try simp [Wk, wkK, wkT, wk1, AV.kept, keptAll, wkO, lk, U5])
        rintro k hk
        rcases Ks k ks.length with ⟨hlt, hlb⟩ | ⟨hlt, hlb⟩
        · have q1 := Kf (⟨[]⟩ : Sl VNode) (show k < (sls ks).length by omega)
          (sym =>
           simp [K5.eq_def,hlb,q1,Uw,Uz,Uy,Ux,szV,Uu,Us,Uv,Ur,szN,Ut,Hy,To,Zb,Zc,Zd,Ze,Zf,Zg,Zo,Zp,Zq,Zt,Zv,Zy,Qb,Qd,Qq,Qs,Q1,Q2,Q4,Jh,Jy,Jz,J0,J5,J6,J7,J8,J9,Xa,Xb,Xc,X3,X4,X6,X7,X8,Wc,Wf,Wh,Wi,Wj,Wt,Wu,Wv,Ww,W8,W9,Ya,Yb,Yd,Ye,Yi,Ym,Y3,Y7,Y8,Y9,Va,Vr,Vt,V4,V5,Uk,Ul,Um,Un,Uo,Up,U8,Kc,U4,Kr,U3,Kb,Gg]
           tactic =>
            try simp only [U1] at *
            try simp only [nc2] at *
            try simp (maxSteps := 4000000) only [K5.eq_def,hlb,q1,Uw,Uz,Uy,Ux,szV,Uu,Us,Uv,Ur,szN,Ut,U9]
            repeat' (first | with_reducible assumption | with_reducible refine And.intro ?_ ?_ | intro _ | omega | (rw [U0]; omega))
            all_goals first
              | (with_reducible refine Kl ?_; kernel_rfl)
              | omega
              | exact ⟨k + 1, by ((try simp only [U2, Ka, U6, Kg, upd, Kh, Ko, Gd, Nat.reduceDiv, Nat.reduceMod, Nat.reduceMul, Nat.reduceAdd, Nat.reduceEqDiff, List.set_cons_zero, List.set_cons_succ, if_true, if_false, reduceIte]); (first | refine Wk.of_fl ?_ | skip); simp only [Wk, wkK, Gl, wkT, wk1, AV.kept, keptAll, wkO, lk, U5, and_true, true_and, and_self, Nat.reduceEqDiff, Nat.reduceLeDiff, if_true, if_false, reduceIte, reduceCtorEq, Option.isSome, false_implies]; try simp [Wk, wkK, wkT, wk1, AV.kept, keptAll, wkO, lk, U5]), by omega, by omega⟩)
        · subst hR2
          (sym =>
           simp [K5.eq_def,hlb,hx1,hy1,hR,Uw,Uz,Uy,Ux,szV,Uu,Us,Uv,Ur,szN,Ut,Hy,Mi,Zb,Zc,Ze,Zf,Zg,Qb,Qd,Qn,Qo,Qp,Qq,Qs,Q1,Q2,Q4,Q8,Jk,Jy,Jz,J0,J5,J6,J7,J8,J9,Xa,Xb,Xc,Xf,X4,X6,X7,Wa,Wb,Wc,Wf,Wh,Wi,Wt,Wu,Wv,Ww,Ya,Yb,Yd,Ye,Yi,Y7,Y8,Y9,Va,Vt,Ul,Um,Un,U8,Kc,U4,Kr,U3,Kb,Gg]))
    · have n4 : (m.kind != 4) = true := by rw [h]; rfl
      have n5 : (m.kind != 5) = false := by rw [h]; rfl
      (sym =>
       simp [K5.eq_def,hx1,hy1,hks,hsl,ev,et,k6,k7,n4,n5,hpx,Uw,Uz,Uy,Ux,szV,Uu,Us,Uv,Ur,szN,Ut,Hy,Sa,Mi,Sb,N2.eq_def,Kz.eq_def,Gr.eq_def,Ga.eq_def,K9.eq_def,Gb.eq_def,Zb,Zc,Zd,Ze,Zf,Zg,Zo,Zp,Zq,Zs,Zt,Zv,Zx,Zy,Z6,Z8,Z9,Qb,Qd,Qe,Qf,Qg,Qq,Qs,Q1,Q2,Q4,Q8,Q9,Ja,Jf,Jh,Ji,Jj,Jl,Jw,J3,J4,J5,J6,J8,J9,Xb,Xc,Xf,Xn,Xo,Xt,Xv,Xx,X3,X4,X6,X7,X8,X9,Wc,Wf,Wh,Wi,Wj,Wt,Wu,Wv,Ww,Wx,Wy,Wz,W0,W6,W7,W8,W9,Ya,Yb,Ye,Yi,Ym,Yt,Yw,Yy,Y0,Y1,Y6,Y7,Y8,Vb,Vc,Vd,Ve,Vf,Vg,Vj,Vo,Vs,Vt,Vu,V4,V5,Uk,Ul,Um,Un,Uo,Up,U8,Kc,U4,Kr,U3,Kb,Gg]
       tactic =>
        try simp only [U1] at *
        try simp only [nc2] at *
        try simp (maxSteps := 4000000) only [K5.eq_def,hx1,hy1,hks,hsl,ev,et,k6,k7,n4,n5,hpx,Uw,Uz,Uy,Ux,szV,Uu,Us,Uv,Ur,szN,Ut,U9]
        repeat' (first | with_reducible assumption | with_reducible refine And.intro ?_ ?_ | intro _ | omega | (rw [U0]; omega))
        · exact ⟨y, hya⟩
        · exact ⟨x, hx⟩
        refine Km [8, 9, 84, 85, 86, 87, 88, 89, 90, 91, 92, 93, 94, 95, 96, 97] (fun k : Nat => [(7, .d (.bool false)), (83, .d (.int .i64 k))]) (fun k : Nat => []) (fun k : Nat => k ≤ ks.length) (fun k : Nat => ks.length - k) 0 ?_ ?_ ?_
        · simp
        · ((try simp only [U2, Ka, U6, Kg, upd, Kh, Ko, Gd, Nat.reduceDiv, Nat.reduceMod, Nat.reduceMul, Nat.reduceAdd, Nat.reduceEqDiff, List.set_cons_zero, List.set_cons_succ, if_true, if_false, reduceIte]); (first | refine Wk.of_fl ?_ | skip); simp only [Wk, wkK, Gl, wkT, wk1, AV.kept, keptAll, wkO, lk, U5, and_true, true_and, and_self, Nat.reduceEqDiff, Nat.reduceLeDiff, if_true, if_false, reduceIte, reduceCtorEq, Option.isSome, false_implies]; try simp [Wk, wkK, wkT, wk1, AV.kept, keptAll, wkO, lk, U5])
        rintro k hk
        rcases Ks k ks.length with ⟨hlt, hlb⟩ | ⟨hlt, hlb⟩
        · have q1 := Kf (⟨[]⟩ : Sl VNode) (show k < (sls ks).length by omega)
          (sym =>
           simp [K5.eq_def,hlb,q1,Uw,Uz,Uy,Ux,szV,Uu,Us,Uv,Ur,szN,Ut,Hy,To,Zb,Zc,Zd,Ze,Zf,Zg,Zo,Zp,Zq,Zt,Zv,Zy,Qb,Qd,Qq,Qs,Q1,Q2,Q4,Jh,Jy,Jz,J0,J5,J6,J7,J8,J9,Xa,Xb,Xc,X3,X4,X6,X7,X8,Wc,Wf,Wh,Wi,Wj,Wt,Wu,Wv,Ww,W8,W9,Ya,Yb,Yd,Ye,Yi,Ym,Y3,Y7,Y8,Y9,Va,Vr,Vt,V4,V5,Uk,Ul,Um,Un,Uo,Up,U8,Kc,U4,Kr,U3,Kb,Gg]
           tactic =>
            try simp only [U1] at *
            try simp only [nc2] at *
            try simp (maxSteps := 4000000) only [K5.eq_def,hlb,q1,Uw,Uz,Uy,Ux,szV,Uu,Us,Uv,Ur,szN,Ut,U9]
            repeat' (first | with_reducible assumption | with_reducible refine And.intro ?_ ?_ | intro _ | omega | (rw [U0]; omega))
            all_goals first
              | (with_reducible refine Kl ?_; kernel_rfl)
              | omega
              | exact ⟨k + 1, by ((try simp only [U2, Ka, U6, Kg, upd, Kh, Ko, Gd, Nat.reduceDiv, Nat.reduceMod, Nat.reduceMul, Nat.reduceAdd, Nat.reduceEqDiff, List.set_cons_zero, List.set_cons_succ, if_true, if_false, reduceIte]); (first | refine Wk.of_fl ?_ | skip); simp only [Wk, wkK, Gl, wkT, wk1, AV.kept, keptAll, wkO, lk, U5, and_true, true_and, and_self, Nat.reduceEqDiff, Nat.reduceLeDiff, if_true, if_false, reduceIte, reduceCtorEq, Option.isSome, false_implies]; try simp [Wk, wkK, wkT, wk1, AV.kept, keptAll, wkO, lk, U5]), by omega, by omega⟩)
        · subst hR2
          (sym =>
           simp [K5.eq_def,hlb,hx1,hy1,hR,Uw,Uz,Uy,Ux,szV,Uu,Us,Uv,Ur,szN,Ut,Hy,Mi,Zb,Zc,Ze,Zf,Zg,Qb,Qd,Qn,Qo,Qp,Qq,Qs,Q1,Q2,Q4,Q8,Jk,Jy,Jz,J0,J5,J6,J7,J8,J9,Xa,Xb,Xc,Xf,X4,X6,X7,Wa,Wb,Wc,Wf,Wh,Wi,Wt,Wu,Wv,Ww,Ya,Yb,Yd,Ye,Yi,Y7,Y8,Y9,Va,Vt,Ul,Um,Un,U8,Kc,U4,Kr,U3,Kb,Gg]))
  | some l =>
    rw [hpr] at hR2
    simp only at hR2
    rw [Ex] at hR2
    have hll : l.length = ks.length := Se hpr hk1
    have hpx : A8 x y = (⟨Mc l⟩, true) := by unfold A8; rw [hks, hm, hpr]
    have hty := El hy.2 hpr
    have hsll : (Mc l).length = ks.length := by rw [Lb, hll]
    obtain ⟨P, hP⟩ : ∃ P : Nat → Bool, P = fun j => fitsR (ks.getD j dv) (l.getD j Gu) := ⟨_, rfl⟩
    rw [← hP] at hR2
    rcases h45 with h | h
    · have n4 : (m.kind != 4) = false := by rw [h]; rfl
      (sym =>
       simp [K5.eq_def,hx1,hy1,hks,hsl,ev,et,k6,k7,n4,hpx,Uw,Uz,Uy,Ux,szV,Uu,Us,Uv,Ur,szN,Ut,Hy,Sa,Mi,Sb,N2.eq_def,Kz.eq_def,Gr.eq_def,Ga.eq_def,K9.eq_def,Gb.eq_def,Zb,Zc,Zd,Ze,Zf,Zg,Zo,Zp,Zq,Zs,Zt,Zv,Zx,Zy,Z6,Z8,Z9,Qb,Qd,Qe,Qf,Qg,Qq,Qs,Q1,Q2,Q4,Q8,Q9,Ja,Jf,Jh,Ji,Jj,Jl,Jw,J3,J4,J5,J6,J8,J9,Xb,Xc,Xf,Xn,Xo,Xt,Xv,Xx,X3,X4,X6,X7,X8,X9,Wc,Wf,Wh,Wi,Wj,Wt,Wu,Wv,Ww,Wx,Wy,Wz,W0,W6,W7,W8,W9,Ya,Yb,Ye,Yi,Ym,Yt,Yw,Yy,Y0,Y1,Y6,Y7,Y8,Vb,Vc,Vd,Ve,Vf,Vg,Vj,Vo,Vs,Vt,Vu,V4,V5,Ul,Um,Un,Uo,Up,U8,Kc,U4,Kr,U3,Kb,Gg]
       tactic =>
        try simp only [U1] at *
        try simp only [nc2] at *
        try simp (maxSteps := 4000000) only [K5.eq_def,hx1,hy1,hks,hsl,ev,et,k6,k7,n4,hpx,Uw,Uz,Uy,Ux,szV,Uu,Us,Uv,Ur,szN,Ut,U9]
        repeat' (first | with_reducible assumption | with_reducible refine And.intro ?_ ?_ | intro _ | omega | (rw [U0]; omega))
        · exact ⟨y, hya⟩
        · exact ⟨x, hx⟩
        refine Km [8, 9, 84, 85, 86, 87, 88, 89, 90, 91, 92, 93, 94, 95, 96, 97] (fun q : Nat × Bool => [(7, .d (.bool q.2)), (83, .d (.int .i64 q.1))]) (fun q : Nat × Bool => []) (fun q : Nat × Bool => q.1 ≤ ks.length ∧ q.2 = (List.range q.1).all P) (fun q : Nat × Bool => ks.length - q.1) (0, true) ?_ ?_ ?_
        · exact ⟨Nat.zero_le _, rfl⟩
        · ((try simp only [U2, Ka, U6, Kg, upd, Kh, Ko, Gd, Nat.reduceDiv, Nat.reduceMod, Nat.reduceMul, Nat.reduceAdd, Nat.reduceEqDiff, List.set_cons_zero, List.set_cons_succ, if_true, if_false, reduceIte]); (first | refine Wk.of_fl ?_ | skip); simp only [Wk, wkK, Gl, wkT, wk1, AV.kept, keptAll, wkO, lk, U5, and_true, true_and, and_self, Nat.reduceEqDiff, Nat.reduceLeDiff, if_true, if_false, reduceIte, reduceCtorEq, Option.isSome, false_implies]; try simp [Wk, wkK, wkT, wk1, AV.kept, keptAll, wkO, lk, U5])
        rintro ⟨k, b⟩ ⟨hk, hb⟩
        simp only at hk hb
        rcases Ks k ks.length with ⟨hlt, hlb⟩ | ⟨hlt, hlb⟩
        · have q1 := Kf (⟨[]⟩ : Sl VNode) (show k < (sls ks).length by omega)
          rw [O6 hlt] at q1
          have q2 := Kf (⟨[]⟩ : Sl Node) (show k < (Mc l).length by omega)
          rw [Od (show k < l.length by omega)] at q2
          have hPk : P k = fitsR ks[k] (l[k]'(by omega)) := by rw [hP]; simp [hlt, show k < l.length by omega]
          have g1 := hsub hlt
          have g2 := hlen hlt
          have g3 := fun m hm => hS m (hmem hlt m hm)
          have g4 := oneN_nds (hty _ (List.getElem_mem (show k < l.length by omega)))
          have g5 := range_succ_all (p := P) (k := k)
          rw [← hb] at g5
          obtain ⟨z, hz⟩ : ∃ z, ks[k] = z := ⟨_, rfl⟩
          obtain ⟨w, hw⟩ : ∃ w, l[k]'(by omega) = w := ⟨_, rfl⟩
          rw [hz] at q1 g1 g2 g3 hPk
          rw [hw] at q2 g4 hPk
          have tz := g1.tree
          have tw := g4.tree
          cases b with
          | false =>
            rw [Bool.false_and] at g5
            (sym =>
             simp [K5.eq_def,hlb,q1,q2,hsll,Uw,Uz,Uy,Ux,szV,Uu,Us,Uv,Ur,szN,Ut,Hy,To,Zb,Zc,Zd,Ze,Zf,Zg,Zo,Zp,Zq,Zt,Zv,Zy,Qb,Qd,Qq,Qs,Q1,Q2,Q4,Jh,Jy,Jz,J0,J5,J6,J7,J8,J9,Xa,Xb,Xc,X3,X4,X6,X7,X8,Wc,Wf,Wh,Wi,Wj,Wt,Wu,Wv,Ww,W8,W9,Ya,Yb,Yd,Ye,Yi,Ym,Y3,Y7,Y8,Y9,Va,Vr,Vt,V4,V5,Uk,Ul,Um,Un,Uo,Up,U8,Kc,U4,Kr,U3,Kb,Gg]
             tactic =>
              try simp only [U1] at *
              try simp only [nc2] at *
              try simp (maxSteps := 4000000) only [K5.eq_def,hlb,q1,q2,hsll,Uw,Uz,Uy,Ux,szV,Uu,Us,Uv,Ur,szN,Ut,U9]
              repeat' (first | with_reducible assumption | with_reducible refine And.intro ?_ ?_ | intro _ | omega | (rw [U0]; omega))
              all_goals first
                | (with_reducible refine Kl ?_; kernel_rfl)
                | omega
                | exact ⟨(k + 1, false), by ((try simp only [U2, Ka, U6, Kg, upd, Kh, Ko, Gd, Nat.reduceDiv, Nat.reduceMod, Nat.reduceMul, Nat.reduceAdd, Nat.reduceEqDiff, List.set_cons_zero, List.set_cons_succ, if_true, if_false, reduceIte]); (first | refine Wk.of_fl ?_ | skip); simp only [Wk, wkK, Gl, wkT, wk1, AV.kept, keptAll, wkO, lk, U5, and_true, true_and, and_self, Nat.reduceEqDiff, Nat.reduceLeDiff, if_true, if_false, reduceIte, reduceCtorEq, Option.isSome, false_implies]; try simp [Wk, wkK, wkT, wk1, AV.kept, keptAll, wkO, lk, U5]), by simp only; omega, g5.symm, by simp only; omega⟩)
          | true =>
            rw [Bool.true_and] at g5
            (sym =>
             simp [K5.eq_def,hlb,q1,q2,hsll,tz,tw,Uw,Uz,Uy,Ux,szV,Uu,Us,Uv,Ur,szN,Ut,Hy,Sa,Mi,Sb,To,N2.eq_def,Kz.eq_def,Gr.eq_def,Ga.eq_def,K9.eq_def,Gb.eq_def,Zb,Zc,Zd,Ze,Zf,Zg,Zo,Zp,Zq,Zt,Zv,Zy,Z9,Qb,Qd,Qe,Qf,Qq,Qs,Q1,Q2,Q4,Q8,Jf,Jh,Jj,Jl,Jy,Jz,J0,J5,J6,J7,J8,J9,Xa,Xb,Xc,Xf,Xt,Xv,Xx,X3,X4,X6,X7,X8,Wc,Wf,Wh,Wi,Wj,Wt,Wu,Wv,Ww,Wx,Wz,W0,W8,W9,Ya,Yb,Yd,Ye,Yi,Ym,Yy,Y0,Y1,Y3,Y6,Y7,Y8,Y9,Va,Vj,Vo,Vr,Vt,Vu,V4,V5,Uk,Um,Un,Uo,Up,U8,Kc,U4,Kr,U3,Kb,Gg]
             tactic =>
              try simp only [U1] at *
              try simp only [nc2] at *
              try simp (maxSteps := 4000000) only [K5.eq_def,hlb,q1,q2,hsll,tz,tw,Uw,Uz,Uy,Ux,szV,Uu,Us,Uv,Ur,szN,Ut,U9]
              repeat' (first | with_reducible assumption | with_reducible refine And.intro ?_ ?_ | intro _ | omega | (rw [U0]; omega))
              all_goals first
                | (with_reducible refine Kl ?_; kernel_rfl)
                | omega
                | exact ⟨_, g1⟩
                | exact ⟨_, g4⟩
                | exact g3
                | exact ⟨(k + 1, P k), by rw [hPk]; ((try simp only [U2, Ka, U6, Kg, upd, Kh, Ko, Gd, Nat.reduceDiv, Nat.reduceMod, Nat.reduceMul, Nat.reduceAdd, Nat.reduceEqDiff, List.set_cons_zero, List.set_cons_succ, if_true, if_false, reduceIte]); (first | refine Wk.of_fl ?_ | skip); simp only [Wk, wkK, Gl, wkT, wk1, AV.kept, keptAll, wkO, lk, U5, and_true, true_and, and_self, Nat.reduceEqDiff, Nat.reduceLeDiff, if_true, if_false, reduceIte, reduceCtorEq, Option.isSome, false_implies]; try simp [Wk, wkK, wkT, wk1, AV.kept, keptAll, wkO, lk, U5]), by simp only; omega, g5.symm, by simp only; omega⟩
                | exact ⟨(k + 1, P k), by ((try simp only [U2, Ka, U6, Kg, upd, Kh, Ko, Gd, Nat.reduceDiv, Nat.reduceMod, Nat.reduceMul, Nat.reduceAdd, Nat.reduceEqDiff, List.set_cons_zero, List.set_cons_succ, if_true, if_false, reduceIte]); (first | refine Wk.of_fl ?_ | skip); simp only [Wk, wkK, Gl, wkT, wk1, AV.kept, keptAll, wkO, lk, U5, and_true, true_and, and_self, Nat.reduceEqDiff, Nat.reduceLeDiff, if_true, if_false, reduceIte, reduceCtorEq, Option.isSome, false_implies]; try simp [Wk, wkK, wkT, wk1, AV.kept, keptAll, wkO, lk, U5]), by simp only; omega, g5.symm, by simp only; omega⟩
                | skip)
        · have hkl : k = ks.length := by omega
          rw [hkl, hR2] at hb
          subst hb
          (sym =>
           simp [K5.eq_def,hlb,hx1,hy1,hR,Uw,Uz,Uy,Ux,szV,Uu,Us,Uv,Ur,szN,Ut,Hy,Mi,Zb,Zc,Ze,Zf,Zg,Qb,Qd,Qn,Qo,Qp,Qq,Qs,Q1,Q2,Q4,Q8,Jk,Jy,Jz,J0,J5,J6,J7,J8,J9,Xa,Xb,Xc,Xf,X4,X6,X7,Wa,Wb,Wc,Wf,Wh,Wi,Wt,Wu,Wv,Ww,Ya,Yb,Yd,Ye,Yi,Y7,Y8,Y9,Va,Vt,Ul,Um,Un,Uo,U8,Kc,U4,Kr,U3,Kb,Gg]))
    · have n4 : (m.kind != 4) = true := by rw [h]; rfl
      have n5 : (m.kind != 5) = false := by rw [h]; rfl
      (sym =>
       simp [K5.eq_def,hx1,hy1,hks,hsl,ev,et,k6,k7,n4,n5,hpx,Uw,Uz,Uy,Ux,szV,Uu,Us,Uv,Ur,szN,Ut,Hy,Sa,Mi,Sb,N2.eq_def,Kz.eq_def,Gr.eq_def,Ga.eq_def,K9.eq_def,Gb.eq_def,Zb,Zc,Zd,Ze,Zf,Zg,Zo,Zp,Zq,Zs,Zt,Zv,Zx,Zy,Z6,Z8,Z9,Qb,Qd,Qe,Qf,Qg,Qq,Qs,Q1,Q2,Q4,Q8,Q9,Ja,Jf,Jh,Ji,Jj,Jl,Jw,J3,J4,J5,J6,J8,J9,Xb,Xc,Xf,Xn,Xo,Xt,Xv,Xx,X3,X4,X6,X7,X8,X9,Wc,Wf,Wh,Wi,Wj,Wt,Wu,Wv,Ww,Wx,Wy,Wz,W0,W6,W7,W8,W9,Ya,Yb,Ye,Yi,Ym,Yt,Yw,Yy,Y0,Y1,Y6,Y7,Y8,Vb,Vc,Vd,Ve,Vf,Vg,Vj,Vo,Vs,Vt,Vu,V4,V5,Uk,Ul,Um,Un,Uo,Up,U8,Kc,U4,Kr,U3,Kb,Gg]
       tactic =>
        try simp only [U1] at *
        try simp only [nc2] at *
        try simp (maxSteps := 4000000) only [K5.eq_def,hx1,hy1,hks,hsl,ev,et,k6,k7,n4,n5,hpx,Uw,Uz,Uy,Ux,szV,Uu,Us,Uv,Ur,szN,Ut,U9]
        repeat' (first | with_reducible assumption | with_reducible refine And.intro ?_ ?_ | intro _ | omega | (rw [U0]; omega))
        · exact ⟨y, hya⟩
        · exact ⟨x, hx⟩
        refine Km [8, 9, 84, 85, 86, 87, 88, 89, 90, 91, 92, 93, 94, 95, 96, 97] (fun q : Nat × Bool => [(7, .d (.bool q.2)), (83, .d (.int .i64 q.1))]) (fun q : Nat × Bool => []) (fun q : Nat × Bool => q.1 ≤ ks.length ∧ q.2 = (List.range q.1).all P) (fun q : Nat × Bool => ks.length - q.1) (0, true) ?_ ?_ ?_
        · exact ⟨Nat.zero_le _, rfl⟩
        · ((try simp only [U2, Ka, U6, Kg, upd, Kh, Ko, Gd, Nat.reduceDiv, Nat.reduceMod, Nat.reduceMul, Nat.reduceAdd, Nat.reduceEqDiff, List.set_cons_zero, List.set_cons_succ, if_true, if_false, reduceIte]); (first | refine Wk.of_fl ?_ | skip); simp only [Wk, wkK, Gl, wkT, wk1, AV.kept, keptAll, wkO, lk, U5, and_true, true_and, and_self, Nat.reduceEqDiff, Nat.reduceLeDiff, if_true, if_false, reduceIte, reduceCtorEq, Option.isSome, false_implies]; try simp [Wk, wkK, wkT, wk1, AV.kept, keptAll, wkO, lk, U5])
        rintro ⟨k, b⟩ ⟨hk, hb⟩
        simp only at hk hb
        rcases Ks k ks.length with ⟨hlt, hlb⟩ | ⟨hlt, hlb⟩
        · have q1 := Kf (⟨[]⟩ : Sl VNode) (show k < (sls ks).length by omega)
          rw [O6 hlt] at q1
          have q2 := Kf (⟨[]⟩ : Sl Node) (show k < (Mc l).length by omega)
          rw [Od (show k < l.length by omega)] at q2
          have hPk : P k = fitsR ks[k] (l[k]'(by omega)) := by rw [hP]; simp [hlt, show k < l.length by omega]
          have g1 := hsub hlt
          have g2 := hlen hlt
          have g3 := fun m hm => hS m (hmem hlt m hm)
          have g4 := oneN_nds (hty _ (List.getElem_mem (show k < l.length by omega)))
          have g5 := range_succ_all (p := P) (k := k)
          rw [← hb] at g5
          obtain ⟨z, hz⟩ : ∃ z, ks[k] = z := ⟨_, rfl⟩
          obtain ⟨w, hw⟩ : ∃ w, l[k]'(by omega) = w := ⟨_, rfl⟩
          rw [hz] at q1 g1 g2 g3 hPk
          rw [hw] at q2 g4 hPk
          have tz := g1.tree
          have tw := g4.tree
          cases b with
          | false =>
            rw [Bool.false_and] at g5
            (sym =>
             simp [K5.eq_def,hlb,q1,q2,hsll,Uw,Uz,Uy,Ux,szV,Uu,Us,Uv,Ur,szN,Ut,Hy,To,Zb,Zc,Zd,Ze,Zf,Zg,Zo,Zp,Zq,Zt,Zv,Zy,Qb,Qd,Qq,Qs,Q1,Q2,Q4,Jh,Jy,Jz,J0,J5,J6,J7,J8,J9,Xa,Xb,Xc,X3,X4,X6,X7,X8,Wc,Wf,Wh,Wi,Wj,Wt,Wu,Wv,Ww,W8,W9,Ya,Yb,Yd,Ye,Yi,Ym,Y3,Y7,Y8,Y9,Va,Vr,Vt,V4,V5,Uk,Ul,Um,Un,Uo,Up,U8,Kc,U4,Kr,U3,Kb,Gg]
             tactic =>
              try simp only [U1] at *
              try simp only [nc2] at *
              try simp (maxSteps := 4000000) only [K5.eq_def,hlb,q1,q2,hsll,Uw,Uz,Uy,Ux,szV,Uu,Us,Uv,Ur,szN,Ut,U9]
              repeat' (first | with_reducible assumption | with_reducible refine And.intro ?_ ?_ | intro _ | omega | (rw [U0]; omega))
              all_goals first
                | (with_reducible refine Kl ?_; kernel_rfl)
                | omega
                | exact ⟨(k + 1, false), by ((try simp only [U2, Ka, U6, Kg, upd, Kh, Ko, Gd, Nat.reduceDiv, Nat.reduceMod, Nat.reduceMul, Nat.reduceAdd, Nat.reduceEqDiff, List.set_cons_zero, List.set_cons_succ, if_true, if_false, reduceIte]); (first | refine Wk.of_fl ?_ | skip); simp only [Wk, wkK, Gl, wkT, wk1, AV.kept, keptAll, wkO, lk, U5, and_true, true_and, and_self, Nat.reduceEqDiff, Nat.reduceLeDiff, if_true, if_false, reduceIte, reduceCtorEq, Option.isSome, false_implies]; try simp [Wk, wkK, wkT, wk1, AV.kept, keptAll, wkO, lk, U5]), by simp only; omega, g5.symm, by simp only; omega⟩)
          | true =>
            rw [Bool.true_and] at g5
            (sym =>
             simp [K5.eq_def,hlb,q1,q2,hsll,tz,tw,Uw,Uz,Uy,Ux,szV,Uu,Us,Uv,Ur,szN,Ut,Hy,Sa,Mi,Sb,To,N2.eq_def,Kz.eq_def,Gr.eq_def,Ga.eq_def,K9.eq_def,Gb.eq_def,Zb,Zc,Zd,Ze,Zf,Zg,Zo,Zp,Zq,Zt,Zv,Zy,Z9,Qb,Qd,Qe,Qf,Qq,Qs,Q1,Q2,Q4,Q8,Jf,Jh,Jj,Jl,Jy,Jz,J0,J5,J6,J7,J8,J9,Xa,Xb,Xc,Xf,Xt,Xv,Xx,X3,X4,X6,X7,X8,Wc,Wf,Wh,Wi,Wj,Wt,Wu,Wv,Ww,Wx,Wz,W0,W8,W9,Ya,Yb,Yd,Ye,Yi,Ym,Yy,Y0,Y1,Y3,Y6,Y7,Y8,Y9,Va,Vj,Vo,Vr,Vt,Vu,V4,V5,Uk,Um,Un,Uo,Up,U8,Kc,U4,Kr,U3,Kb,Gg]
             tactic =>
              try simp only [U1] at *
              try simp only [nc2] at *
              try simp (maxSteps := 4000000) only [K5.eq_def,hlb,q1,q2,hsll,tz,tw,Uw,Uz,Uy,Ux,szV,Uu,Us,Uv,Ur,szN,Ut,U9]
              repeat' (first | with_reducible assumption | with_reducible refine And.intro ?_ ?_ | intro _ | omega | (rw [U0]; omega))
              all_goals first
                | (with_reducible refine Kl ?_; kernel_rfl)
                | omega
                | exact ⟨_, g1⟩
                | exact ⟨_, g4⟩
                | exact g3
                | exact ⟨(k + 1, P k), by rw [hPk]; ((try simp only [U2, Ka, U6, Kg, upd, Kh, Ko, Gd, Nat.reduceDiv, Nat.reduceMod, Nat.reduceMul, Nat.reduceAdd, Nat.reduceEqDiff, List.set_cons_zero, List.set_cons_succ, if_true, if_false, reduceIte]); (first | refine Wk.of_fl ?_ | skip); simp only [Wk, wkK, Gl, wkT, wk1, AV.kept, keptAll, wkO, lk, U5, and_true, true_and, and_self, Nat.reduceEqDiff, Nat.reduceLeDiff, if_true, if_false, reduceIte, reduceCtorEq, Option.isSome, false_implies]; try simp [Wk, wkK, wkT, wk1, AV.kept, keptAll, wkO, lk, U5]), by simp only; omega, g5.symm, by simp only; omega⟩
                | exact ⟨(k + 1, P k), by ((try simp only [U2, Ka, U6, Kg, upd, Kh, Ko, Gd, Nat.reduceDiv, Nat.reduceMod, Nat.reduceMul, Nat.reduceAdd, Nat.reduceEqDiff, List.set_cons_zero, List.set_cons_succ, if_true, if_false, reduceIte]); (first | refine Wk.of_fl ?_ | skip); simp only [Wk, wkK, Gl, wkT, wk1, AV.kept, keptAll, wkO, lk, U5, and_true, true_and, and_self, Nat.reduceEqDiff, Nat.reduceLeDiff, if_true, if_false, reduceIte, reduceCtorEq, Option.isSome, false_implies]; try simp [Wk, wkK, wkT, wk1, AV.kept, keptAll, wkO, lk, U5]), by simp only; omega, g5.symm, by simp only; omega⟩
                | skip)
        · have hkl : k = ks.length := by omega
          rw [hkl, hR2] at hb
          subst hb
          (sym =>
           simp [K5.eq_def,hlb,hx1,hy1,hR,Uw,Uz,Uy,Ux,szV,Uu,Us,Uv,Ur,szN,Ut,Hy,Mi,Zb,Zc,Ze,Zf,Zg,Qb,Qd,Qn,Qo,Qp,Qq,Qs,Q1,Q2,Q4,Q8,Jk,Jy,Jz,J0,J5,J6,J7,J8,J9,Xa,Xb,Xc,Xf,X4,X6,X7,Wa,Wb,Wc,Wf,Wh,Wi,Wt,Wu,Wv,Ww,Ya,Yb,Yd,Ye,Yi,Y7,Y8,Y9,Va,Vt,Ul,Um,Un,Uo,U8,Kc,U4,Kr,U3,Kb,Gg]))
theorem goodn_FitsV : ∀ n, Gj Tryz.prog (24, N2 n)
  | 0 => Ev (U7 Tryz.func24 (by kernel_rfl) rfl) con_FitsV_zero
  | n + 1 => step_FitsV n (goodn_FitsV n)
end Go.Am.Ty
set_option linter.unusedSimpArgs false
set_option linter.unusedVariables false
set_option maxHeartbeats 2000000
namespace Go.Am.Ty
open Go.Proofs Go.Rose Go.Rose.Rose
open Enc (enc dec)
theorem flat_sls : ∀ ks : List (Rose VNode), Lg (sls ks) = ndss ks
  | [] => rfl
  | k :: ks => by
    have := flat_sls ks
    unfold Lg sls at *
    rw [List.map_cons, List.flatMap_cons, this, ndss]
theorem sls_set {ks : List (Rose VNode)} {k : Nat} {y : Rose VNode} : ((sls ks).map (enc : Sl VNode → D)).set k (enc (Sl.mk (nds y))) = (sls (ks.set k y)).map enc := by
  unfold sls
  rw [List.map_set, List.map_set]
end Go.Am.Ty
set_option linter.unusedSimpArgs false
set_option linter.unusedVariables false
set_option maxHeartbeats 4000000
namespace Go.Am.Ty
open Go.Proofs Go.Rose Go.Rose.Rose
open Enc (enc dec)
theorem fun_len {lab : Int} {x y : Rose VNode} {t u : Rose Node} (h : funR lab x t u = some y) : (nds y).length ≤ 2 * (nds x).length := by
  unfold funR at h
  have hp := N8 x
  cases h1 : ((Ps u).root.kind == 5) with
  | false => rw [h1, cond_false] at h; cases h
  | true =>
    rw [h1, cond_true] at h
    cases h2 : Gp (nds (Ps t)) (nds (Ps u)) with
    | true => rw [h2, cond_true] at h; injection h with h; subst h; omega
    | false =>
      rw [h2, cond_false] at h
      injection h with h
      rw [← h, Av, Ho, ndss, ndss, List.append_nil, nds_relabT, List.length_cons, relabL_len]
      omega
mutual
theorem cast_len {lab : Int} : ∀ {x y : Rose VNode} {t u : Rose Node}, castR lab x t u = some y → (nds y).length ≤ 2 * (nds x).length
  | mk n ks, y, t, u, h => by
    rw [castR] at h
    have hp := N8 (mk n ks)
    cases h1 : Gp (nds t) (nds u) with
    | true => rw [h1, cond_true] at h; injection h with h; subst h; omega
    | false =>
      rw [h1, cond_false] at h
      cases h2 : H4 n with
      | true => rw [h2, cond_true] at h; exact fun_len h
      | false =>
        rw [h2, cond_false] at h
        cases h3 : (n.kind == 4 || n.kind == 5) with
        | false =>
          rw [h3, cond_false] at h
          cases h4 : (!(u.root.kind == 0) && !N9 n u.root.kind) with
          | true => rw [h4, cond_true] at h; cases h
          | false => rw [h4, cond_false] at h; injection h with h; subst h; omega
        | true =>
          rw [h3, cond_true] at h
          cases ha : Gk n ks t with
          | none => rw [ha] at h; cases h
          | some a =>
            cases hb : Gk n ks u with
            | none => rw [ha, hb] at h; cases h
            | some b =>
              rw [ha, hb] at h
              simp only [Option.map_eq_some_iff] at h
              obtain ⟨ys, g1, rfl⟩ := h
              have := casts_len g1
              rw [Ho, Ho, List.length_cons, List.length_cons]
              omega
theorem casts_len {lab : Int} : ∀ {ks ys : List (Rose VNode)} {a b : List (Rose Node)}, castRs lab ks a b = some ys → (ndss ys).length ≤ 2 * (ndss ks).length
  | [], ys, a, b, h => by
    rw [castRs] at h
    injection h with h
    rw [← h]
    simp [ndss]
  | k :: ks, ys, a, b, h => by
    rw [castRs] at h
    cases hk : castR lab k (a.headD Gu) (b.headD Gu) with
    | none => rw [hk] at h; cases h
    | some y =>
      rw [hk] at h
      simp only [Option.map_eq_some_iff] at h
      obtain ⟨zs, h1, rfl⟩ := h
      have := cast_len hk
      have := casts_len h1
      rw [ndss, ndss, List.length_append, List.length_append]
      omega
end
def Cn (o : Option (Rose VNode)) : Sl VNode × Bool := match o with
  | some y => (⟨nds y⟩, true)
  | none => (⟨[]⟩, false)
theorem funL_eq {lab : Int} {x : Rose VNode} {t u : Rose Node} : funL (nds x) (nds t) (nds u) lab = Cn (funR lab x t u) := by
  have ha : ∀ t : Rose Node, arrOr (nds t) = nds (Ps t) := fun t => by
    unfold arrOr Ps
    rw [show (nds t).getD 0 n0 = t.root by rw [Nc]; rfl]
    cases t.root.kind == 0 with
    | true => rfl
    | false => rfl
  have hr : ∀ t : Rose Node, (nds t).getD 0 n0 = t.root := fun t => by rw [Nc]; rfl
  unfold funL funR
  rw [ha, ha, hr]
  cases (Ps u).root.kind == 5 with
  | false => rfl
  | true =>
    simp only [cond_true]
    cases Gp (nds (Ps t)) (nds (Ps u)) with
    | true => rfl
    | false =>
      simp only [cond_false, Cn]
      have : (nds x).getD 0 v0 = x.root := by rw [Nc]; rfl
      unfold wrapL Av
      rw [this, Ho, ndss, ndss, List.append_nil, nds_relabT]
noncomputable def He (n : Nat) : Con := K7 (fun (v : Sl VNode) (t u : Sl Node) (_ : Int) => v.l.length ≤ 100000 ∧ (∃ x, Co v.l x) ∧ (∃ y, OneN t.l y) ∧ (∃ z, OneN u.l z) ∧ v.l.length < n) (fun v t u lab => Cn (castR lab (K1 arV v.l 0) (K1 ar t.l 0) (K1 ar u.l 0)))
theorem con_CastV_zero : ∀ c, ¬ (He 0).pre c := by
  intro c h
  unfold He at h
  obtain ⟨_, _, _, _, _, _, _, _, _, h⟩ := Ar h
  omega
theorem mix_set {ys ks : List (Rose VNode)} {k : Nat} {y : Rose VNode} (h : k < ks.length) (hy : ys.length = k) : (ys ++ ks.drop k).set k y = (ys ++ [y]) ++ ks.drop (k + 1) := by
  rw [List.set_append_right _ _ (by omega), hy, Nat.sub_self, List.drop_eq_getElem_cons h, List.set_cons_zero, List.append_assoc]
  rfl
theorem mix_len {ys ks : List (Rose VNode)} {k : Nat} (h : k ≤ ks.length) (hy : ys.length = k) : (ys ++ ks.drop k).length = ks.length := by
  rw [List.length_append, List.length_drop, hy]; omega
theorem mix_at {ys ks : List (Rose VNode)} {k : Nat} (h : k < ks.length) (hy : ys.length = k) : (ys ++ ks.drop k)[k]'(by rw [mix_len (by omega) hy]; exact h) = ks[k] := by
  rw [List.getElem_append_right (by omega)]
  simp [hy]
noncomputable def Aq (n : Nat) : Ctx := ⟨tab, lkC [(25, Kz), (26, Hf), (27, Kx), (28, Ga), (29, Gb), (30, K9), (31, Gs), (8, (He n))], 60, lkB [], [], false⟩
theorem Hz (n : Nat) : (Aq n).τ = tab := rfl
theorem H1 (n : Nat) : (Aq n).Γ = lkC [(25, Kz), (26, Hf), (27, Kx), (28, Ga), (29, Gb), (30, K9), (31, Gs), (8, (He n))] := rfl
theorem H0 (n : Nat) : (Aq n).dp = 60 := rfl
theorem H2 (n : Nat) : (Aq n).Δ = lkB [] := rfl
theorem O0 (n : Nat) : (Aq n).wr = false := rfl
set_option maxRecDepth 100000 in
theorem step_CastV (n : Nat) (ih : Gj Tryz.prog (8, He n)) : Gj Tryz.prog (8, (He (n + 1))) := by
  refine ⟨U7 Tryz.func8 (by kernel_rfl) rfl, ?_⟩
  have K : Ky Tryz.prog (Aq n) := Kd K6 Ki (by
    intro p hp
    simp only [List.mem_cons, List.not_mem_nil, or_false] at hp
    rcases hp with rfl | rfl | rfl | rfl | rfl | rfl | rfl | rfl
    · exact Ip
    · exact good_isFunV
    · exact good_functionV
    · exact good_isBaseV
    · exact good_partsV
    · exact good_kidsV
    · exact good_joinedV
    · exact ih) (by simp)
  obtain ⟨c, hc⟩ : ∃ c, Tryz.f8.body = some c := ⟨_, rfl⟩
  refine Ke K Tryz.func8 hc [.tmp 8, .tmp 9] rfl 115 rfl (fun cvs hpre => ?_)
  change (He (n + 1)).pre cvs at hpre
  unfold He at hpre
  obtain ⟨⟨v⟩, ⟨t⟩, ⟨u⟩, lab, rfl, hv, ⟨x, hx⟩, ⟨y, hy⟩, ⟨w, hw⟩, hn⟩ := Ar hpre
  simp only at hv hx hy hw hn
  have hx1 := hx.tree
  have hy1 := hy.tree
  have hw1 := hw.tree
  have hxl := hx.at.lt
  have hyl := hy.at.lt
  have hwl := hw.at.lt
  have hya := hy.at
  have hwa := hw.at
  have htl : t.length ≤ 1000000 := by rw [hy.1]; exact hy.2.2
  have hul : u.length ≤ 1000000 := by rw [hw.1]; exact hw.2.2
  have htl2 : t.length ≤ 9223372036854775807 := by omega
  have hul2 : u.length ≤ 9223372036854775807 := by omega
  have hVI : VaIn v := ⟨List.ne_nil_of_length_pos hxl, by omega⟩
  have hTI : Oa t := ⟨List.ne_nil_of_length_pos hyl, htl⟩
  have hUI : Oa u := ⟨List.ne_nil_of_length_pos hwl, hul⟩
  have ev := Kf v0 hxl
  have eu := Kf n0 hwl
  have hro := hx.at.root v0
  rw [hro] at ev
  rw [hwa.root n0] at eu
  obtain ⟨R, hR⟩ : ∃ R, castR lab x y w = R := ⟨_, rfl⟩
  have hcl : ∀ z, R = some z → (nds z).length ≤ 2 * v.length := fun z hz => by rw [hx.1]; exact cast_len (hR.trans hz)
  have hR2 := hR
  rw [show x = mk x.root x.kids by cases x; rfl, castR] at hR2
  rw [show mk x.root x.kids = x by cases x; rfl] at hR2
  rw [← hy.1, ← hw.1] at hR2
  have hfl : funL v t u lab = Cn (funR lab x y w) := by
    have := funL_eq (lab := lab) (x := x) (t := y) (u := w)
    rw [← hx.1, ← hy.1, ← hw.1] at this
    exact this
  have hxs : Cn (some x) = (⟨v⟩, true) := by unfold Cn; rw [hx.1]
  have hxn : Cn none = (⟨[]⟩, false) := rfl
  have hsub := @oneV_sub x hx.2
  have hlen := @kid_lenV x
  have hk1 := kid1 hx.2
  rw [← hx.1] at hlen
  have hkl := Oi x.kids
  have hvl : v.length = 1 + (ndss x.kids).length := by rw [hx.1, Nc, List.length_cons]; omega
  obtain ⟨ks, hks⟩ : ∃ ks, x.kids = ks := ⟨_, rfl⟩
  rw [hks] at hR2 hkl hvl
  simp only [hks] at hsub hlen hk1
  have hsl : (sls ks).length = ks.length := T0
  obtain ⟨m, hm⟩ : ∃ m, x.root = m := ⟨_, rfl⟩
  rw [hm] at ev hR2 hk1 hro
  obtain ⟨p, hp⟩ : ∃ p, w.root = p := ⟨_, rfl⟩
  rw [hp] at eu hR2
  clear hpre
  simp only [Tryz.f8, Option.some.injEq] at hc
  subst hc
  refine Kw 7 (of_decide_eq_true (by kernel_rfl)) ?_
  cases hs : Gp t u with
  | true =>
    rw [hs, cond_true] at hR2
    subst hR2
    (sym =>
     simp [K7.eq_def,hx1,hy1,hw1,hR,hs,hxs,Uw,Uz,Uy,Ux,szV,Uu,Us,Uv,Ur,szN,Ut,Hz,H1,H0,H2,He.eq_def,Kz.eq_def,Kx.eq_def,Ga.eq_def,Hf.eq_def,Gs.eq_def,K9.eq_def,Gb.eq_def,Zb,Zc,Ze,Zf,Zg,Zn,Zo,Z9,Qe,Qf,Qn,Qo,Qp,Qq,Qs,Q1,Q2,Q4,Q8,Jf,Jj,Jk,Jl,Jw,J3,J4,J5,J6,J8,J9,Xb,Xc,Xf,Xn,Xo,Xu,Xv,Xx,X4,X6,X7,X8,Wb,Wc,Wf,Wh,Wi,Wj,Wt,Wu,Wv,Ww,Wx,Wy,Wz,W0,W6,W7,Ya,Yb,Yx,Yy,Y7,Y8,Vb,Vc,Vd,Ve,Vf,Vg,Vh,Vj,Vo,Vt,Vu,V5,V7,Uk,Um,Un,Uo,Nx,U8,Ku,Kc,U4,Kr,U3,Kb,Gg]
     tactic =>
      try simp only [U1] at *
      try simp only [nc2] at *
      try simp (maxSteps := 4000000) only [K7.eq_def,hx1,hy1,hw1,hR,hs,hxs,Uw,Uz,Uy,Ux,szV,Uu,Us,Uv,Ur,szN,Ut,U9]
      repeat' (first | with_reducible assumption | with_reducible refine And.intro ?_ ?_ | intro _ | omega | (rw [U0]; omega)))
  | false =>
  rw [hs, cond_false] at hR2
  cases hf : H4 m with
  | true =>
    rw [hf, cond_true] at hR2
    rw [hR2] at hfl
    (sym =>
     simp [K7.eq_def,hx1,hy1,hw1,hR,hs,hro,hf,hfl,Uw,Uz,Uy,Ux,szV,Uu,Us,Uv,Ur,szN,Ut,Hz,H1,H0,H2,He.eq_def,Kz.eq_def,Kx.eq_def,Ga.eq_def,Hf.eq_def,Gs.eq_def,K9.eq_def,Gb.eq_def,Zb,Zc,Ze,Zf,Zg,Zn,Zo,Z8,Z9,Qe,Qf,Qg,Qn,Qo,Qp,Qq,Qs,Q1,Q2,Q4,Q8,Q9,Ja,Jf,Jj,Jk,Jl,Jw,J3,J4,J5,J6,J8,J9,Xb,Xc,Xf,Xn,Xo,Xu,Xv,Xx,X4,X6,X7,X8,Wb,Wc,Wf,Wh,Wi,Wj,Wt,Wu,Wv,Ww,Wx,Wy,Wz,W0,W6,W7,Ya,Yb,Yx,Yy,Y7,Y8,Vb,Vc,Vd,Ve,Vf,Vg,Vh,Vj,Vm,Vo,Vt,Vu,V5,V7,Uk,Ul,Um,Un,Uo,Nx,U8,Ku,Kc,U4,Kr,U3,Kb,Gg]
     tactic =>
      try simp only [U1] at *
      try simp only [nc2] at *
      try simp (maxSteps := 4000000) only [K7.eq_def,hx1,hy1,hw1,hR,hs,hro,hf,hfl,Uw,Uz,Uy,Ux,szV,Uu,Us,Uv,Ur,szN,Ut,U9]
      repeat' (first | with_reducible assumption | with_reducible refine And.intro ?_ ?_ | intro _ | omega | (rw [U0]; omega)))
  | false =>
  rw [hf, cond_false] at hR2
  cases k45 : (m.kind == 4 || m.kind == 5) with
  | false =>
    rw [k45, cond_false] at hR2
    rw [Bool.or_eq_false_iff] at k45
    obtain ⟨k4, k5⟩ := k45
    have n4 : (m.kind != 4) = true := by rw [bne, k4]; rfl
    have n5 : (m.kind != 5) = true := by rw [bne, k5]; rfl
    cases p0 : (p.kind == 0) with
    | true =>
      have p0n : (p.kind != 0) = false := by rw [bne, p0]; rfl
      rw [p0] at hR2
      simp only [Bool.not_true, Bool.false_and, cond_false] at hR2
      subst hR2
      (sym =>
       simp [K7.eq_def,hx1,hy1,hw1,hR,hs,hro,hf,n4,n5,p0n,ev,eu,hxs,Uw,Uz,Uy,Ux,szV,Uu,Us,Uv,Ur,szN,Ut,Hz,H1,H0,H2,He.eq_def,Kz.eq_def,Kx.eq_def,Ga.eq_def,Hf.eq_def,Gs.eq_def,K9.eq_def,Gb.eq_def,Zb,Zc,Zd,Ze,Zf,Zg,Zn,Zo,Zp,Zq,Zs,Zt,Zv,Zx,Zy,Z9,Qb,Qd,Qe,Qf,Qn,Qo,Qp,Qq,Qs,Q1,Q2,Q4,Q8,Jf,Jj,Jk,Jl,Jw,J3,J4,J5,J6,J8,J9,Xb,Xc,Xf,Xn,Xo,Xu,Xv,Xx,X3,X4,X6,X7,X8,Wb,Wc,Wf,Wh,Wi,Wj,Wt,Wu,Wv,Ww,Wx,Wy,Wz,W0,W6,W7,W8,W9,Ya,Yb,Ye,Yi,Ym,Yt,Yw,Yx,Yy,Y0,Y1,Y7,Y8,Vb,Vc,Vd,Ve,Vf,Vg,Vh,Vj,Vo,Vs,Vt,Vu,V4,V5,V7,Uk,Ul,Um,Un,Uo,Up,Nx,U8,Ku,Kc,U4,Kr,U3,Kb,Gg]
       tactic =>
        try simp only [U1] at *
        try simp only [nc2] at *
        try simp (maxSteps := 4000000) only [K7.eq_def,hx1,hy1,hw1,hR,hs,hro,hf,n4,n5,p0n,ev,eu,hxs,Uw,Uz,Uy,Ux,szV,Uu,Us,Uv,Ur,szN,Ut,U9]
        repeat' (first | with_reducible assumption | with_reducible refine And.intro ?_ ?_ | intro _ | omega | (rw [U0]; omega)))
    | false =>
      have p0n : (p.kind != 0) = true := by rw [bne, p0]; rfl
      rw [p0] at hR2
      simp only [Bool.not_false, Bool.true_and] at hR2
      cases hb : N9 m p.kind with
      | true =>
        rw [hb] at hR2
        simp only [Bool.not_true, cond_false] at hR2
        subst hR2
        (sym =>
         simp [K7.eq_def,hx1,hy1,hw1,hR,hs,hro,hf,n4,n5,p0n,hb,ev,eu,hxs,Uw,Uz,Uy,Ux,szV,Uu,Us,Uv,Ur,szN,Ut,Hz,H1,H0,H2,He.eq_def,Kz.eq_def,Kx.eq_def,Ga.eq_def,Hf.eq_def,Gs.eq_def,K9.eq_def,Gb.eq_def,Zb,Zc,Zd,Ze,Zf,Zg,Zn,Zo,Zp,Zq,Zs,Zt,Zv,Zx,Zy,Z9,Qb,Qc,Qd,Qe,Qf,Qn,Qo,Qp,Qq,Qs,Q1,Q2,Q4,Q8,Jf,Jj,Jk,Jl,Jw,J3,J4,J5,J6,J8,J9,Xb,Xc,Xf,Xn,Xo,Xu,Xv,Xx,X3,X4,X6,X7,X8,Wb,Wc,Wf,Wh,Wi,Wj,Wt,Wu,Wv,Ww,Wx,Wy,Wz,W0,W6,W7,W8,W9,Ya,Yb,Ye,Yf,Yi,Yj,Ym,Yt,Yw,Yx,Yy,Y0,Y1,Y7,Y8,Vb,Vc,Vd,Ve,Vf,Vg,Vh,Vj,Vm,Vo,Vp,Vs,Vt,Vu,V4,V5,V7,Uk,Ul,Um,Un,Uo,Up,Nx,U8,Ku,Kc,U4,Kr,U3,Kb,Gg]
         tactic =>
          try simp only [U1] at *
          try simp only [nc2] at *
          try simp (maxSteps := 4000000) only [K7.eq_def,hx1,hy1,hw1,hR,hs,hro,hf,n4,n5,p0n,hb,ev,eu,hxs,Uw,Uz,Uy,Ux,szV,Uu,Us,Uv,Ur,szN,Ut,U9]
          repeat' (first | with_reducible assumption | with_reducible refine And.intro ?_ ?_ | intro _ | omega | (rw [U0]; omega)))
      | false =>
        rw [hb] at hR2
        simp only [Bool.not_false, cond_true] at hR2
        subst hR2
        (sym =>
         simp [K7.eq_def,hx1,hy1,hw1,hR,hs,hro,hf,n4,n5,p0n,hb,ev,eu,hxn,Uw,Uz,Uy,Ux,szV,Uu,Us,Uv,Ur,szN,Ut,Hz,H1,H0,H2,He.eq_def,Kz.eq_def,Kx.eq_def,Ga.eq_def,Hf.eq_def,Gs.eq_def,K9.eq_def,Gb.eq_def,Zb,Zc,Zd,Ze,Zf,Zg,Zn,Zo,Zp,Zq,Zs,Zt,Zv,Zx,Zy,Z9,Qb,Qc,Qd,Qe,Qf,Qn,Qo,Qp,Qq,Qs,Q1,Q2,Q4,Q8,Jf,Jj,Jk,Jl,Jw,J3,J4,J5,J6,J8,J9,Xb,Xc,Xf,Xg,Xn,Xo,Xu,Xv,Xx,X4,X6,X7,X8,Wb,Wc,Wf,Wh,Wi,Wj,Wt,Wu,Wv,Ww,Wx,Wy,Wz,W0,W6,W7,W8,W9,Ya,Yb,Ye,Yf,Yi,Yj,Ym,Yt,Yw,Yx,Yy,Y0,Y1,Y7,Y8,Vb,Vc,Vd,Ve,Vf,Vg,Vh,Vj,Vm,Vo,Vq,Vs,Vt,Vu,V4,V5,V7,Uk,Ul,Um,Un,Uo,Up,Nx,U8,Ku,Kc,U4,Kr,U3,Kb,Gg]
         tactic =>
          try simp only [U1] at *
          try simp only [nc2] at *
          try simp (maxSteps := 4000000) only [K7.eq_def,hx1,hy1,hw1,hR,hs,hro,hf,n4,n5,p0n,hb,ev,eu,hxn,Uw,Uz,Uy,Ux,szV,Uu,Us,Uv,Ur,szN,Ut,U9]
          repeat' (first | with_reducible assumption | with_reducible refine And.intro ?_ ?_ | intro _ | omega | (rw [U0]; omega)))
  | true =>
  rw [k45, cond_true] at hR2
  have h45 : m.kind = 4 ∨ m.kind = 5 := by simpa using k45
  have hex : ∃ x, Co v x ∧ (x.root.kind = 4 ∨ x.root.kind = 5) := ⟨x, hx, by rw [hm]; exact h45⟩
  have hpx : ∀ z, A8 x z = match Gk m ks z with
      | some l => (⟨Mc l⟩, true)
      | none => (cond (z.root.kind == 7 && m.kind == 5) ⟨[⟨[]⟩]⟩ ⟨[]⟩, false) := fun z => by unfold A8; (rw [hks, hm]) <;> rfl
  have hpy := hpx y
  have hpw := hpx w
  clear hpx
  obtain ⟨gy, hgy⟩ : ∃ gy : Sl (Sl Node), cond (y.root.kind == 7 && m.kind == 5) ⟨[⟨[]⟩]⟩ ⟨[]⟩ = gy := ⟨_, rfl⟩
  obtain ⟨gw, hgw⟩ : ∃ gw : Sl (Sl Node), cond (w.root.kind == 7 && m.kind == 5) ⟨[⟨[]⟩]⟩ ⟨[]⟩ = gw := ⟨_, rfl⟩
  rw [hgy] at hpy
  rw [hgw] at hpw
  rcases h45 with h | h
  · have n4 : (m.kind != 4) = false := by rw [h]; rfl
    cases hpa : Gk m ks y with
    | none =>
      rw [hpa] at hR2 hpy
      simp only at hR2 hpy
      obtain ⟨Bw, hBw⟩ : ∃ Bw, A8 x w = Bw := ⟨_, rfl⟩
      obtain ⟨b1, b2⟩ := Bw
      clear hpw
      subst hR2
      (sym =>
       simp [K7.eq_def,hx1,hy1,hw1,hR,hs,hro,hf,n4,ev,hpy,hBw,hxn,Uw,Uz,Uy,Ux,szV,Uu,Us,Uv,Ur,szN,Ut,Hz,H1,H0,H2,He.eq_def,Kz.eq_def,Kx.eq_def,Ga.eq_def,Hf.eq_def,Gs.eq_def,K9.eq_def,Gb.eq_def,Zb,Zc,Zd,Ze,Zf,Zg,Zn,Zo,Zp,Zq,Zs,Zt,Zv,Zx,Zy,Z8,Z9,Qb,Qc,Qd,Qe,Qf,Qg,Qn,Qo,Qp,Qq,Qs,Q1,Q2,Q4,Q8,Q9,Ja,Jf,Jj,Jk,Jl,Jw,J3,J4,J5,J6,J8,J9,Xb,Xc,Xf,Xg,Xn,Xo,Xu,Xv,Xx,X3,X4,X6,X7,X8,Wb,Wc,Wf,Wh,Wi,Wj,Wt,Wu,Wv,Ww,Wx,Wy,Wz,W0,W6,W7,W8,W9,Ya,Yb,Ye,Yf,Yi,Yj,Ym,Yt,Yw,Yx,Yy,Y0,Y1,Y7,Y8,Vb,Vc,Vd,Ve,Vf,Vg,Vh,Vj,Vo,Vq,Vs,Vt,Vu,V4,V5,V7,Uk,Ul,Um,Un,Uo,Up,Nx,U8,Ku,Kc,U4,Kr,U3,Kb,Gg]
       tactic =>
        try simp only [U1] at *
        try simp only [nc2] at *
        try simp (maxSteps := 4000000) only [K7.eq_def,hx1,hy1,hw1,hR,hs,hro,hf,n4,ev,hpy,hBw,hxn,Uw,Uz,Uy,Ux,szV,Uu,Us,Uv,Ur,szN,Ut,U9]
        repeat' (first | with_reducible assumption | with_reducible refine And.intro ?_ ?_ | intro _ | omega | (rw [U0]; omega))
        all_goals first
          | exact hex
          | exact ⟨y, hya⟩
          | exact ⟨w, hwa⟩
          | omega
          | skip)
    | some a =>
      rw [hpa] at hR2 hpy
      simp only at hR2 hpy
      cases hpb : Gk m ks w with
      | none =>
        rw [hpb] at hR2 hpw
        simp only at hR2 hpw
        subst hR2
        (sym =>
         simp [K7.eq_def,hx1,hy1,hw1,hR,hs,hro,hf,n4,ev,hpy,hpw,hxn,Uw,Uz,Uy,Ux,szV,Uu,Us,Uv,Ur,szN,Ut,Hz,H1,H0,H2,He.eq_def,Kz.eq_def,Kx.eq_def,Ga.eq_def,Hf.eq_def,Gs.eq_def,K9.eq_def,Gb.eq_def,Zb,Zc,Zd,Ze,Zf,Zg,Zn,Zo,Zp,Zq,Zs,Zt,Zv,Zx,Zy,Z8,Z9,Qb,Qc,Qd,Qe,Qf,Qg,Qn,Qo,Qp,Qq,Qs,Q1,Q2,Q4,Q8,Q9,Ja,Jf,Jj,Jk,Jl,Jw,J3,J4,J5,J6,J8,J9,Xb,Xc,Xf,Xg,Xn,Xo,Xu,Xv,Xx,X3,X4,X6,X7,X8,Wb,Wc,Wf,Wh,Wi,Wj,Wt,Wu,Wv,Ww,Wx,Wy,Wz,W0,W6,W7,W8,W9,Ya,Yb,Ye,Yf,Yi,Yj,Ym,Yt,Yw,Yx,Yy,Y0,Y1,Y7,Y8,Vb,Vc,Vd,Ve,Vf,Vg,Vh,Vj,Vo,Vp,Vq,Vs,Vt,Vu,V4,V5,V7,Uk,Ul,Um,Un,Uo,Up,Nx,U8,Ku,Kc,U4,Kr,U3,Kb,Gg]
         tactic =>
          try simp only [U1] at *
          try simp only [nc2] at *
          try simp (maxSteps := 4000000) only [K7.eq_def,hx1,hy1,hw1,hR,hs,hro,hf,n4,ev,hpy,hpw,hxn,Uw,Uz,Uy,Ux,szV,Uu,Us,Uv,Ur,szN,Ut,U9]
          repeat' (first | with_reducible assumption | with_reducible refine And.intro ?_ ?_ | intro _ | omega | (rw [U0]; omega))
          all_goals first
            | exact hex
            | exact ⟨y, hya⟩
            | exact ⟨w, hwa⟩
            | omega
            | skip)
      | some b =>
        rw [hpb] at hR2 hpw
        simp only at hR2 hpw
        rw [castRs_seq] at hR2
        have hal : a.length = ks.length := Se hpa hk1
        have hbl : b.length = ks.length := Se hpb hk1
        have hay := El hy.2 hpa
        have hby := El hw.2 hpb
        have hsa : (Mc a).length = ks.length := by rw [Lb, hal]
        have hsb : (Mc b).length = ks.length := by rw [Lb, hbl]
        obtain ⟨c, hc⟩ : ∃ c : Nat → Option (Rose VNode), c = fun j => castR lab (ks.getD j dv) (a.getD j Gu) (b.getD j Gu) := ⟨_, rfl⟩
        rw [← hc] at hR2
        (sym =>
         simp [K5.eq_def,K7.eq_def,hx1,hy1,hw1,hs,hro,hf,n4,ev,hpy,hpw,hks,hsl,Uw,Uz,Uy,Ux,szV,Uu,Us,Uv,Ur,szN,Ut,Hz,H1,H0,H2,He.eq_def,Kz.eq_def,Kx.eq_def,Ga.eq_def,Hf.eq_def,Gs.eq_def,K9.eq_def,Gb.eq_def,Zb,Zc,Zd,Ze,Zf,Zg,Zn,Zo,Zp,Zq,Zs,Zt,Zv,Zx,Zy,Z6,Z8,Z9,Qb,Qc,Qd,Qe,Qf,Qg,Qq,Qs,Q1,Q2,Q4,Q8,Q9,Ja,Jf,Jh,Ji,Jj,Jl,Jw,J3,J4,J5,J6,J8,J9,Xb,Xc,Xf,Xn,Xo,Xu,Xv,Xx,X3,X4,X6,X7,X8,X9,Wc,Wf,Wh,Wi,Wj,Wt,Wu,Wv,Ww,Wx,Wy,Wz,W0,W6,W7,W8,W9,Ya,Yb,Ye,Yf,Yi,Yj,Ym,Yt,Yw,Yx,Yy,Y0,Y1,Y6,Y7,Y8,Vb,Vc,Vd,Ve,Vf,Vg,Vh,Vj,Vo,Vp,Vs,Vt,Vu,V4,V5,V7,Ul,Um,Un,Uo,Up,Nx,U8,Ku,Kc,U4,Kr,U3,Kb,Gg]
         tactic =>
          try simp only [U1] at *
          try simp only [nc2] at *
          try simp (maxSteps := 4000000) only [K5.eq_def,K7.eq_def,hx1,hy1,hw1,hs,hro,hf,n4,ev,hpy,hpw,hks,hsl,Uw,Uz,Uy,Ux,szV,Uu,Us,Uv,Ur,szN,Ut,U9]
          repeat' (first | with_reducible assumption | with_reducible refine And.intro ?_ ?_ | intro _ | omega | (rw [U0]; omega))
          · exact ⟨y, hya⟩
          · exact ⟨w, hwa⟩
          · exact ⟨x, hx⟩
          refine Km [8, 9, 15, 16, 17, 18, 85, 86, 87, 88, 89, 90, 91, 92, 93, 94, 95, 96, 97, 98, 99, 100, 101, 102, 103, 104, 105, 106, 107, 108, 109] (fun q : Nat × List (Rose VNode) => [(14, .sl 81 ((sls (q.2 ++ ks.drop q.1)).map (enc : Sl VNode → D)).length), (82, .sl 81 ((sls (q.2 ++ ks.drop q.1)).map (enc : Sl VNode → D)).length), (84, .d (.int .i64 q.1))]) (fun q : Nat × List (Rose VNode) => [(81, .row 1 ((sls (q.2 ++ ks.drop q.1)).map enc) 0)]) (fun q : Nat × List (Rose VNode) => q.1 ≤ ks.length ∧ Ek c q.1 = some q.2) (fun q : Nat × List (Rose VNode) => ks.length - q.1) (0, []) ?_ ?_ ?_
          · exact ⟨Nat.zero_le _, rfl⟩
          · ((try simp only [U2, Ka, U6, Kg, upd, Kh, Ko, Gd, Nat.reduceDiv, Nat.reduceMod, Nat.reduceMul, Nat.reduceAdd, Nat.reduceEqDiff, List.set_cons_zero, List.set_cons_succ, if_true, if_false, reduceIte]); (first | refine Wk.of_fl ?_ | skip); simp only [Wk, wkK, Gl, wkT, wk1, AV.kept, keptAll, wkO, lk, U5, and_true, true_and, and_self, Nat.reduceEqDiff, Nat.reduceLeDiff, if_true, if_false, reduceIte, reduceCtorEq, Option.isSome, false_implies]; try simp [Wk, wkK, wkT, wk1, AV.kept, keptAll, wkO, lk, U5, hsl])
          rintro ⟨k, ys⟩ ⟨hk, hq⟩
          simp only at hk hq
          have hyl2 := A1 hq
          have hml : (sls (ys ++ ks.drop k)).length = ks.length := by rw [T0, mix_len hk hyl2]
          rcases Ks k ks.length with ⟨hlt, hlb⟩ | ⟨hlt, hlb⟩
          · have q1 := Kf (⟨[]⟩ : Sl VNode) (show k < (sls (ys ++ ks.drop k)).length by omega)
            rw [O6 (by rw [mix_len hk hyl2]; exact hlt), mix_at hlt hyl2] at q1
            have q2 := Kf (⟨[]⟩ : Sl Node) (show k < (Mc a).length by omega)
            rw [Od (show k < a.length by omega)] at q2
            have q3 := Kf (⟨[]⟩ : Sl Node) (show k < (Mc b).length by omega)
            rw [Od (show k < b.length by omega)] at q3
            have hck : c k = castR lab ks[k] (a[k]'(by omega)) (b[k]'(by omega)) := by rw [hc]; simp [hlt, show k < a.length by omega, show k < b.length by omega]
            have g1 := hsub hlt
            have g2 := hlen hlt
            have g4 := oneN_nds (hay _ (List.getElem_mem (show k < a.length by omega)))
            have g5 := oneN_nds (hby _ (List.getElem_mem (show k < b.length by omega)))
            obtain ⟨z, hz⟩ : ∃ z, ks[k] = z := ⟨_, rfl⟩
            obtain ⟨za, hza⟩ : ∃ za, a[k]'(by omega) = za := ⟨_, rfl⟩
            obtain ⟨zb, hzb⟩ : ∃ zb, b[k]'(by omega) = zb := ⟨_, rfl⟩
            rw [hz] at q1 g1 g2 hck
            rw [hza] at q2 g4 hck
            rw [hzb] at q3 g5 hck
            have tz := g1.tree
            have ta := g4.tree
            have tb := g5.tree
            cases hcc : castR lab z za zb with
            | none =>
              rw [hcc] at hck
              rw [seqO_none hck hlt] at hR2
              simp only [Option.map_none] at hR2
              subst hR2
              (sym =>
               simp [K5.eq_def,K7.eq_def,hlb,hml,q1,q2,q3,hsa,hsb,tz,ta,tb,hcc,hxn,hx1,hy1,hw1,hR,Uw,Uz,Uy,Ux,szV,Uu,Us,Uv,Ur,szN,Ut,Hz,H1,H0,H2,O0,He.eq_def,Kz.eq_def,Kx.eq_def,Ga.eq_def,Hf.eq_def,Gs.eq_def,K9.eq_def,Gb.eq_def,Zb,Zc,Ze,Zf,Zg,Zh,Zi,Zj,Zk,Zl,Zm,Zn,Zo,Zp,Zq,Zv,Zy,Z8,Z9,Qb,Qc,Qd,Qe,Qf,Qg,Qn,Qo,Qp,Qq,Qr,Qs,Q1,Q2,Q4,Q5,Q6,Q8,Q9,Ja,Jf,Jh,Ji,Jj,Jk,Jl,Jy,Jz,J0,J5,J6,J8,J9,Xb,Xc,Xf,Xg,Xu,Xv,Xx,X3,X4,X5,X6,X7,X8,Wb,Wc,Wd,We,Wf,Wg,Wh,Wi,Wj,Wp,Wq,Wr,Ws,Wt,Wu,Wv,Ww,Wx,Wz,W0,W4,W5,W6,W7,Ya,Yb,Yd,Ye,Yf,Yi,Yj,Ym,Yy,Y0,Y1,Y3,Y6,Y7,Y8,Vc,Vh,Vj,Vm,Vo,Vq,Vr,Vt,Vu,V5,V7,Uk,Ul,Um,Un,Uo,Up,Uq,Nx,U8,Ku,Kc,U4,Kr,U3,Kb,Gg]
               tactic =>
                try simp only [U1] at *
                try simp only [nc2] at *
                try simp (maxSteps := 4000000) only [K5.eq_def,K7.eq_def,hlb,hml,q1,q2,q3,hsa,hsb,tz,ta,tb,hcc,hxn,hx1,hy1,hw1,hR,Uw,Uz,Uy,Ux,szV,Uu,Us,Uv,Ur,szN,Ut,U9]
                repeat' (first | with_reducible assumption | with_reducible refine And.intro ?_ ?_ | intro _ | omega | (rw [U0]; omega))
                all_goals first
                  | (with_reducible refine Kl ?_; kernel_rfl)
                  | omega
                  | exact ⟨_, g1⟩
                  | exact ⟨_, g4⟩
                  | exact ⟨_, g5⟩
                  | skip)
            | some yk =>
              rw [hcc] at hck
              have hsn : Ek c (k + 1) = some (ys ++ [yk]) := by rw [Ek, hq, hck]
              have hos : Cn (some yk) = (⟨nds yk⟩, true) := rfl
              have hset := sls_set (ks := ys ++ ks.drop k) (k := k) (y := yk)
              rw [mix_set hlt hyl2] at hset
              have hml2 : (sls (ys ++ [yk] ++ ks.drop (k + 1))).length = ks.length := by rw [T0, mix_len (by omega) (A1 hsn)]
              have hml3 : (sls (ys ++ yk :: ks.drop (k + 1))).length = ks.length := by rw [← hml2, List.append_assoc]; rfl
              (sym =>
               simp [K5.eq_def,K7.eq_def,hlb,hml,q1,q2,q3,hsa,hsb,tz,ta,tb,hcc,hos,hset,Uw,Uz,Uy,Ux,szV,Uu,Us,Uv,Ur,szN,Ut,Hz,H1,H0,H2,O0,He.eq_def,Kz.eq_def,Kx.eq_def,Ga.eq_def,Hf.eq_def,Gs.eq_def,K9.eq_def,Gb.eq_def,Zb,Zc,Ze,Zf,Zg,Zh,Zi,Zj,Zk,Zl,Zm,Zo,Zp,Zq,Zv,Zw,Zy,Z8,Z9,Qb,Qc,Qd,Qe,Qf,Qg,Qq,Qr,Qs,Q1,Q2,Q4,Q5,Q6,Q8,Q9,Ja,Jf,Jh,Ji,Jj,Jl,Jy,Jz,J0,J5,J6,J8,J9,Xb,Xc,Xf,Xu,Xv,Xx,X3,X4,X5,X6,X7,X8,Wc,Wd,We,Wf,Wg,Wh,Wi,Wj,Wp,Wq,Wr,Ws,Wt,Wu,Wv,Ww,Wx,Wz,W0,W4,W5,W6,W7,Ya,Yb,Yd,Ye,Yf,Yi,Yj,Ym,Yy,Y0,Y1,Y2,Y3,Y6,Y7,Y8,Vc,Vh,Vj,Vm,Vo,Vp,Vr,Vt,Vu,V0,V4,Uk,Ul,Um,Un,Uo,Up,Uq,Nx,U8,Ku,Kc,U4,Kr,U3,Kb,Gg]
               tactic =>
                try simp only [U1] at *
                try simp only [nc2] at *
                try simp (maxSteps := 4000000) only [K5.eq_def,K7.eq_def,hlb,hml,q1,q2,q3,hsa,hsb,tz,ta,tb,hcc,hos,hset,Uw,Uz,Uy,Ux,szV,Uu,Us,Uv,Ur,szN,Ut,U9]
                repeat' (first | with_reducible assumption | with_reducible refine And.intro ?_ ?_ | intro _ | omega | (rw [U0]; omega))
                all_goals first
                  | (with_reducible refine Kl ?_; kernel_rfl)
                  | omega
                  | exact ⟨_, g1⟩
                  | exact ⟨_, g4⟩
                  | exact ⟨_, g5⟩
                  | exact ⟨(k + 1, ys ++ [yk]), by ((try simp only [U2, Ka, U6, Kg, upd, Kh, Ko, Gd, Nat.reduceDiv, Nat.reduceMod, Nat.reduceMul, Nat.reduceAdd, Nat.reduceEqDiff, List.set_cons_zero, List.set_cons_succ, if_true, if_false, reduceIte]); (first | refine Wk.of_fl ?_ | skip); simp only [Wk, wkK, Gl, wkT, wk1, AV.kept, keptAll, wkO, lk, U5, and_true, true_and, and_self, Nat.reduceEqDiff, Nat.reduceLeDiff, if_true, if_false, reduceIte, reduceCtorEq, Option.isSome, false_implies]; try simp [Wk, wkK, wkT, wk1, AV.kept, keptAll, wkO, lk, U5, hml, hml2, hml3]), by simp only; omega, hsn, by simp only; omega⟩
                  | skip)
          · have hkl2 : k = ks.length := by omega
            rw [hkl2] at hq
            rw [hq] at hR2
            simp only [Option.map_some] at hR2
            have hcl2 := hcl _ hR2.symm
            rw [Ho, List.length_cons] at hcl2
            have hfl2 := flat_sls ys
            have hos : Cn R = (⟨m :: ndss ys⟩, true) := by rw [← hR2]; simp only [Cn, Ho]
            have hdr : ys ++ ks.drop k = ys := by rw [hkl2, List.drop_length, List.append_nil]
            rw [hdr] at hml ⊢
            have hsy : (sls ys).length ≤ 1000000 := by rw [hml]; omega
            (sym =>
             simp [K5.eq_def,K7.eq_def,hlb,hml,ev,hfl2,hx1,hy1,hw1,hR,hos,Uw,Uz,Uy,Ux,szV,Uu,Us,Uv,Ur,szN,Ut,Hz,H1,H0,H2,He.eq_def,Kz.eq_def,Kx.eq_def,Ga.eq_def,Hf.eq_def,Gs.eq_def,K9.eq_def,Gb.eq_def,Zb,Zc,Ze,Zf,Zg,Zo,Zp,Zq,Zv,Zy,Z9,Qb,Qd,Qe,Qf,Qn,Qo,Qp,Qq,Qs,Q1,Q2,Q4,Q8,Jf,Jh,Ji,Jj,Jk,Jl,Jy,Jz,J0,J5,J6,J7,J8,J9,Xa,Xb,Xc,Xf,Xh,Xp,Xu,Xv,Xx,X4,X6,X7,Wa,Wb,Wc,Wf,Wh,Wi,Wj,Wt,Wu,Wv,Ww,Wx,Wz,W0,Ya,Yb,Yd,Ye,Yi,Ym,Y0,Y1,Y7,Y8,Y9,Va,Vk,Vl,Vs,Vt,Vu,V4,V5,Ul,Um,Un,Uo,Up,Nx,U8,Ku,Kc,U4,Kr,U3,Kb,Gg]
             tactic =>
              try simp only [U1] at *
              try simp only [nc2] at *
              try simp (maxSteps := 4000000) only [K5.eq_def,K7.eq_def,hlb,hml,ev,hfl2,hx1,hy1,hw1,hR,hos,Uw,Uz,Uy,Ux,szV,Uu,Us,Uv,Ur,szN,Ut,U9]
              repeat' (first | with_reducible assumption | with_reducible refine And.intro ?_ ?_ | intro _ | omega | (rw [U0]; omega))
              all_goals first
                | (with_reducible refine Kl ?_; kernel_rfl)
                | omega
                | skip))
  · have n4 : (m.kind != 4) = true := by rw [h]; rfl
    have n5 : (m.kind != 5) = false := by rw [h]; rfl
    cases hpa : Gk m ks y with
    | none =>
      rw [hpa] at hR2 hpy
      simp only at hR2 hpy
      obtain ⟨Bw, hBw⟩ : ∃ Bw, A8 x w = Bw := ⟨_, rfl⟩
      obtain ⟨b1, b2⟩ := Bw
      clear hpw
      subst hR2
      (sym =>
       simp [K7.eq_def,hx1,hy1,hw1,hR,hs,hro,hf,n4,n5,ev,hpy,hBw,hxn,Uw,Uz,Uy,Ux,szV,Uu,Us,Uv,Ur,szN,Ut,Hz,H1,H0,H2,He.eq_def,Kz.eq_def,Kx.eq_def,Ga.eq_def,Hf.eq_def,Gs.eq_def,K9.eq_def,Gb.eq_def,Zb,Zc,Zd,Ze,Zf,Zg,Zn,Zo,Zp,Zq,Zs,Zt,Zv,Zx,Zy,Z8,Z9,Qb,Qc,Qd,Qe,Qf,Qg,Qn,Qo,Qp,Qq,Qs,Q1,Q2,Q4,Q8,Q9,Ja,Jf,Jj,Jk,Jl,Jw,J3,J4,J5,J6,J8,J9,Xb,Xc,Xf,Xg,Xn,Xo,Xu,Xv,Xx,X3,X4,X6,X7,X8,Wb,Wc,Wf,Wh,Wi,Wj,Wt,Wu,Wv,Ww,Wx,Wy,Wz,W0,W6,W7,W8,W9,Ya,Yb,Ye,Yf,Yi,Yj,Ym,Yt,Yw,Yx,Yy,Y0,Y1,Y7,Y8,Vb,Vc,Vd,Ve,Vf,Vg,Vh,Vj,Vo,Vq,Vs,Vt,Vu,V4,V5,V7,Uk,Ul,Um,Un,Uo,Up,Nx,U8,Ku,Kc,U4,Kr,U3,Kb,Gg]
       tactic =>
        try simp only [U1] at *
        try simp only [nc2] at *
        try simp (maxSteps := 4000000) only [K7.eq_def,hx1,hy1,hw1,hR,hs,hro,hf,n4,n5,ev,hpy,hBw,hxn,Uw,Uz,Uy,Ux,szV,Uu,Us,Uv,Ur,szN,Ut,U9]
        repeat' (first | with_reducible assumption | with_reducible refine And.intro ?_ ?_ | intro _ | omega | (rw [U0]; omega))
        all_goals first
          | exact hex
          | exact ⟨y, hya⟩
          | exact ⟨w, hwa⟩
          | omega
          | skip)
    | some a =>
      rw [hpa] at hR2 hpy
      simp only at hR2 hpy
      cases hpb : Gk m ks w with
      | none =>
        rw [hpb] at hR2 hpw
        simp only at hR2 hpw
        subst hR2
        (sym =>
         simp [K7.eq_def,hx1,hy1,hw1,hR,hs,hro,hf,n4,n5,ev,hpy,hpw,hxn,Uw,Uz,Uy,Ux,szV,Uu,Us,Uv,Ur,szN,Ut,Hz,H1,H0,H2,He.eq_def,Kz.eq_def,Kx.eq_def,Ga.eq_def,Hf.eq_def,Gs.eq_def,K9.eq_def,Gb.eq_def,Zb,Zc,Zd,Ze,Zf,Zg,Zn,Zo,Zp,Zq,Zs,Zt,Zv,Zx,Zy,Z8,Z9,Qb,Qc,Qd,Qe,Qf,Qg,Qn,Qo,Qp,Qq,Qs,Q1,Q2,Q4,Q8,Q9,Ja,Jf,Jj,Jk,Jl,Jw,J3,J4,J5,J6,J8,J9,Xb,Xc,Xf,Xg,Xn,Xo,Xu,Xv,Xx,X3,X4,X6,X7,X8,Wb,Wc,Wf,Wh,Wi,Wj,Wt,Wu,Wv,Ww,Wx,Wy,Wz,W0,W6,W7,W8,W9,Ya,Yb,Ye,Yf,Yi,Yj,Ym,Yt,Yw,Yx,Yy,Y0,Y1,Y7,Y8,Vb,Vc,Vd,Ve,Vf,Vg,Vh,Vj,Vo,Vp,Vq,Vs,Vt,Vu,V4,V5,V7,Uk,Ul,Um,Un,Uo,Up,Nx,U8,Ku,Kc,U4,Kr,U3,Kb,Gg]
         tactic =>
          try simp only [U1] at *
          try simp only [nc2] at *
          try simp (maxSteps := 4000000) only [K7.eq_def,hx1,hy1,hw1,hR,hs,hro,hf,n4,n5,ev,hpy,hpw,hxn,Uw,Uz,Uy,Ux,szV,Uu,Us,Uv,Ur,szN,Ut,U9]
          repeat' (first | with_reducible assumption | with_reducible refine And.intro ?_ ?_ | intro _ | omega | (rw [U0]; omega))
          all_goals first
            | exact hex
            | exact ⟨y, hya⟩
            | exact ⟨w, hwa⟩
            | omega
            | skip)
      | some b =>
        rw [hpb] at hR2 hpw
        simp only at hR2 hpw
        rw [castRs_seq] at hR2
        have hal : a.length = ks.length := Se hpa hk1
        have hbl : b.length = ks.length := Se hpb hk1
        have hay := El hy.2 hpa
        have hby := El hw.2 hpb
        have hsa : (Mc a).length = ks.length := by rw [Lb, hal]
        have hsb : (Mc b).length = ks.length := by rw [Lb, hbl]
        obtain ⟨c, hc⟩ : ∃ c : Nat → Option (Rose VNode), c = fun j => castR lab (ks.getD j dv) (a.getD j Gu) (b.getD j Gu) := ⟨_, rfl⟩
        rw [← hc] at hR2
        (sym =>
         simp [K5.eq_def,K7.eq_def,hx1,hy1,hw1,hs,hro,hf,n4,n5,ev,hpy,hpw,hks,hsl,Uw,Uz,Uy,Ux,szV,Uu,Us,Uv,Ur,szN,Ut,Hz,H1,H0,H2,He.eq_def,Kz.eq_def,Kx.eq_def,Ga.eq_def,Hf.eq_def,Gs.eq_def,K9.eq_def,Gb.eq_def,Zb,Zc,Zd,Ze,Zf,Zg,Zn,Zo,Zp,Zq,Zs,Zt,Zv,Zx,Zy,Z6,Z8,Z9,Qb,Qc,Qd,Qe,Qf,Qg,Qq,Qs,Q1,Q2,Q4,Q8,Q9,Ja,Jf,Jh,Ji,Jj,Jl,Jw,J3,J4,J5,J6,J8,J9,Xb,Xc,Xf,Xn,Xo,Xu,Xv,Xx,X3,X4,X6,X7,X8,X9,Wc,Wf,Wh,Wi,Wj,Wt,Wu,Wv,Ww,Wx,Wy,Wz,W0,W6,W7,W8,W9,Ya,Yb,Ye,Yf,Yi,Yj,Ym,Yt,Yw,Yx,Yy,Y0,Y1,Y6,Y7,Y8,Vb,Vc,Vd,Ve,Vf,Vg,Vh,Vj,Vo,Vp,Vs,Vt,Vu,V4,V5,V7,Uk,Ul,Um,Un,Uo,Up,Nx,U8,Ku,Kc,U4,Kr,U3,Kb,Gg]
         tactic =>
          try simp only [U1] at *
          try simp only [nc2] at *
          try simp (maxSteps := 4000000) only [K5.eq_def,K7.eq_def,hx1,hy1,hw1,hs,hro,hf,n4,n5,ev,hpy,hpw,hks,hsl,Uw,Uz,Uy,Ux,szV,Uu,Us,Uv,Ur,szN,Ut,U9]
          repeat' (first | with_reducible assumption | with_reducible refine And.intro ?_ ?_ | intro _ | omega | (rw [U0]; omega))
          · exact ⟨y, hya⟩
          · exact ⟨w, hwa⟩
          · exact ⟨x, hx⟩
          refine Km [8, 9, 15, 16, 17, 18, 85, 86, 87, 88, 89, 90, 91, 92, 93, 94, 95, 96, 97, 98, 99, 100, 101, 102, 103, 104, 105, 106, 107, 108, 109] (fun q : Nat × List (Rose VNode) => [(14, .sl 81 ((sls (q.2 ++ ks.drop q.1)).map (enc : Sl VNode → D)).length), (82, .sl 81 ((sls (q.2 ++ ks.drop q.1)).map (enc : Sl VNode → D)).length), (84, .d (.int .i64 q.1))]) (fun q : Nat × List (Rose VNode) => [(81, .row 1 ((sls (q.2 ++ ks.drop q.1)).map enc) 0)]) (fun q : Nat × List (Rose VNode) => q.1 ≤ ks.length ∧ Ek c q.1 = some q.2) (fun q : Nat × List (Rose VNode) => ks.length - q.1) (0, []) ?_ ?_ ?_
          · exact ⟨Nat.zero_le _, rfl⟩
          · ((try simp only [U2, Ka, U6, Kg, upd, Kh, Ko, Gd, Nat.reduceDiv, Nat.reduceMod, Nat.reduceMul, Nat.reduceAdd, Nat.reduceEqDiff, List.set_cons_zero, List.set_cons_succ, if_true, if_false, reduceIte]); (first | refine Wk.of_fl ?_ | skip); simp only [Wk, wkK, Gl, wkT, wk1, AV.kept, keptAll, wkO, lk, U5, and_true, true_and, and_self, Nat.reduceEqDiff, Nat.reduceLeDiff, if_true, if_false, reduceIte, reduceCtorEq, Option.isSome, false_implies]; try simp [Wk, wkK, wkT, wk1, AV.kept, keptAll, wkO, lk, U5, hsl])
          rintro ⟨k, ys⟩ ⟨hk, hq⟩
          simp only at hk hq
          have hyl2 := A1 hq
          have hml : (sls (ys ++ ks.drop k)).length = ks.length := by rw [T0, mix_len hk hyl2]
          rcases Ks k ks.length with ⟨hlt, hlb⟩ | ⟨hlt, hlb⟩
          · have q1 := Kf (⟨[]⟩ : Sl VNode) (show k < (sls (ys ++ ks.drop k)).length by omega)
            rw [O6 (by rw [mix_len hk hyl2]; exact hlt), mix_at hlt hyl2] at q1
            have q2 := Kf (⟨[]⟩ : Sl Node) (show k < (Mc a).length by omega)
            rw [Od (show k < a.length by omega)] at q2
            have q3 := Kf (⟨[]⟩ : Sl Node) (show k < (Mc b).length by omega)
            rw [Od (show k < b.length by omega)] at q3
            have hck : c k = castR lab ks[k] (a[k]'(by omega)) (b[k]'(by omega)) := by rw [hc]; simp [hlt, show k < a.length by omega, show k < b.length by omega]
            have g1 := hsub hlt
            have g2 := hlen hlt
            have g4 := oneN_nds (hay _ (List.getElem_mem (show k < a.length by omega)))
            have g5 := oneN_nds (hby _ (List.getElem_mem (show k < b.length by omega)))
            obtain ⟨z, hz⟩ : ∃ z, ks[k] = z := ⟨_, rfl⟩
            obtain ⟨za, hza⟩ : ∃ za, a[k]'(by omega) = za := ⟨_, rfl⟩
            obtain ⟨zb, hzb⟩ : ∃ zb, b[k]'(by omega) = zb := ⟨_, rfl⟩
            rw [hz] at q1 g1 g2 hck
            rw [hza] at q2 g4 hck
            rw [hzb] at q3 g5 hck
            have tz := g1.tree
            have ta := g4.tree
            have tb := g5.tree
            cases hcc : castR lab z za zb with
            | none =>
              rw [hcc] at hck
              rw [seqO_none hck hlt] at hR2
              simp only [Option.map_none] at hR2
              subst hR2
              (sym =>
               simp [K5.eq_def,K7.eq_def,hlb,hml,q1,q2,q3,hsa,hsb,tz,ta,tb,hcc,hxn,hx1,hy1,hw1,hR,Uw,Uz,Uy,Ux,szV,Uu,Us,Uv,Ur,szN,Ut,Hz,H1,H0,H2,O0,He.eq_def,Kz.eq_def,Kx.eq_def,Ga.eq_def,Hf.eq_def,Gs.eq_def,K9.eq_def,Gb.eq_def,Zb,Zc,Ze,Zf,Zg,Zh,Zi,Zj,Zk,Zl,Zm,Zn,Zo,Zp,Zq,Zv,Zy,Z8,Z9,Qb,Qc,Qd,Qe,Qf,Qg,Qn,Qo,Qp,Qq,Qr,Qs,Q1,Q2,Q4,Q5,Q6,Q8,Q9,Ja,Jf,Jh,Ji,Jj,Jk,Jl,Jy,Jz,J0,J5,J6,J8,J9,Xb,Xc,Xf,Xg,Xu,Xv,Xx,X3,X4,X5,X6,X7,X8,Wb,Wc,Wd,We,Wf,Wg,Wh,Wi,Wj,Wp,Wq,Wr,Ws,Wt,Wu,Wv,Ww,Wx,Wz,W0,W4,W5,W6,W7,Ya,Yb,Yd,Ye,Yf,Yi,Yj,Ym,Yy,Y0,Y1,Y3,Y6,Y7,Y8,Vc,Vh,Vj,Vm,Vo,Vq,Vr,Vt,Vu,V5,V7,Uk,Ul,Um,Un,Uo,Up,Uq,Nx,U8,Ku,Kc,U4,Kr,U3,Kb,Gg]
               tactic =>
                try simp only [U1] at *
                try simp only [nc2] at *
                try simp (maxSteps := 4000000) only [K5.eq_def,K7.eq_def,hlb,hml,q1,q2,q3,hsa,hsb,tz,ta,tb,hcc,hxn,hx1,hy1,hw1,hR,Uw,Uz,Uy,Ux,szV,Uu,Us,Uv,Ur,szN,Ut,U9]
                repeat' (first | with_reducible assumption | with_reducible refine And.intro ?_ ?_ | intro _ | omega | (rw [U0]; omega))
                all_goals first
                  | (with_reducible refine Kl ?_; kernel_rfl)
                  | omega
                  | exact ⟨_, g1⟩
                  | exact ⟨_, g4⟩
                  | exact ⟨_, g5⟩
                  | skip)
            | some yk =>
              rw [hcc] at hck
              have hsn : Ek c (k + 1) = some (ys ++ [yk]) := by rw [Ek, hq, hck]
              have hos : Cn (some yk) = (⟨nds yk⟩, true) := rfl
              have hset := sls_set (ks := ys ++ ks.drop k) (k := k) (y := yk)
              rw [mix_set hlt hyl2] at hset
              have hml2 : (sls (ys ++ [yk] ++ ks.drop (k + 1))).length = ks.length := by rw [T0, mix_len (by omega) (A1 hsn)]
              have hml3 : (sls (ys ++ yk :: ks.drop (k + 1))).length = ks.length := by rw [← hml2, List.append_assoc]; rfl
              (sym =>
               simp [K5.eq_def,K7.eq_def,hlb,hml,q1,q2,q3,hsa,hsb,tz,ta,tb,hcc,hos,hset,Uw,Uz,Uy,Ux,szV,Uu,Us,Uv,Ur,szN,Ut,Hz,H1,H0,H2,O0,He.eq_def,Kz.eq_def,Kx.eq_def,Ga.eq_def,Hf.eq_def,Gs.eq_def,K9.eq_def,Gb.eq_def,Zb,Zc,Ze,Zf,Zg,Zh,Zi,Zj,Zk,Zl,Zm,Zo,Zp,Zq,Zv,Zw,Zy,Z8,Z9,Qb,Qc,Qd,Qe,Qf,Qg,Qq,Qr,Qs,Q1,Q2,Q4,Q5,Q6,Q8,Q9,Ja,Jf,Jh,Ji,Jj,Jl,Jy,Jz,J0,J5,J6,J8,J9,Xb,Xc,Xf,Xu,Xv,Xx,X3,X4,X5,X6,X7,X8,Wc,Wd,We,Wf,Wg,Wh,Wi,Wj,Wp,Wq,Wr,Ws,Wt,Wu,Wv,Ww,Wx,Wz,W0,W4,W5,W6,W7,Ya,Yb,Yd,Ye,Yf,Yi,Yj,Ym,Yy,Y0,Y1,Y2,Y3,Y6,Y7,Y8,Vc,Vh,Vj,Vm,Vo,Vp,Vr,Vt,Vu,V0,V4,Uk,Ul,Um,Un,Uo,Up,Uq,Nx,U8,Ku,Kc,U4,Kr,U3,Kb,Gg]
               tactic =>
                try simp only [U1] at *
                try simp only [nc2] at *
                try simp (maxSteps := 4000000) only [K5.eq_def,K7.eq_def,hlb,hml,q1,q2,q3,hsa,hsb,tz,ta,tb,hcc,hos,hset,Uw,Uz,Uy,Ux,szV,Uu,Us,Uv,Ur,szN,Ut,U9]
                repeat' (first | with_reducible assumption | with_reducible refine And.intro ?_ ?_ | intro _ | omega | (rw [U0]; omega))
                all_goals first
                  | (with_reducible refine Kl ?_; kernel_rfl)
                  | omega
                  | exact ⟨_, g1⟩
                  | exact ⟨_, g4⟩
                  | exact ⟨_, g5⟩
                  | exact ⟨(k + 1, ys ++ [yk]), by ((try simp only [U2, Ka, U6, Kg, upd, Kh, Ko, Gd, Nat.reduceDiv, Nat.reduceMod, Nat.reduceMul, Nat.reduceAdd, Nat.reduceEqDiff, List.set_cons_zero, List.set_cons_succ, if_true, if_false, reduceIte]); (first | refine Wk.of_fl ?_ | skip); simp only [Wk, wkK, Gl, wkT, wk1, AV.kept, keptAll, wkO, lk, U5, and_true, true_and, and_self, Nat.reduceEqDiff, Nat.reduceLeDiff, if_true, if_false, reduceIte, reduceCtorEq, Option.isSome, false_implies]; try simp [Wk, wkK, wkT, wk1, AV.kept, keptAll, wkO, lk, U5, hml, hml2, hml3]), by simp only; omega, hsn, by simp only; omega⟩
                  | skip)
          · have hkl2 : k = ks.length := by omega
            rw [hkl2] at hq
            rw [hq] at hR2
            simp only [Option.map_some] at hR2
            have hcl2 := hcl _ hR2.symm
            rw [Ho, List.length_cons] at hcl2
            have hfl2 := flat_sls ys
            have hos : Cn R = (⟨m :: ndss ys⟩, true) := by rw [← hR2]; simp only [Cn, Ho]
            have hdr : ys ++ ks.drop k = ys := by rw [hkl2, List.drop_length, List.append_nil]
            rw [hdr] at hml ⊢
            have hsy : (sls ys).length ≤ 1000000 := by rw [hml]; omega
            (sym =>
             simp [K5.eq_def,K7.eq_def,hlb,hml,ev,hfl2,hx1,hy1,hw1,hR,hos,Uw,Uz,Uy,Ux,szV,Uu,Us,Uv,Ur,szN,Ut,Hz,H1,H0,H2,He.eq_def,Kz.eq_def,Kx.eq_def,Ga.eq_def,Hf.eq_def,Gs.eq_def,K9.eq_def,Gb.eq_def,Zb,Zc,Ze,Zf,Zg,Zo,Zp,Zq,Zv,Zy,Z9,Qb,Qd,Qe,Qf,Qn,Qo,Qp,Qq,Qs,Q1,Q2,Q4,Q8,Jf,Jh,Ji,Jj,Jk,Jl,Jy,Jz,J0,J5,J6,J7,J8,J9,Xa,Xb,Xc,Xf,Xh,Xp,Xu,Xv,Xx,X4,X6,X7,Wa,Wb,Wc,Wf,Wh,Wi,Wj,Wt,Wu,Wv,Ww,Wx,Wz,W0,Ya,Yb,Yd,Ye,Yi,Ym,Y0,Y1,Y7,Y8,Y9,Va,Vk,Vl,Vs,Vt,Vu,V4,V5,Ul,Um,Un,Uo,Up,Nx,U8,Ku,Kc,U4,Kr,U3,Kb,Gg]
             tactic =>
              try simp only [U1] at *
              try simp only [nc2] at *
              try simp (maxSteps := 4000000) only [K5.eq_def,K7.eq_def,hlb,hml,ev,hfl2,hx1,hy1,hw1,hR,hos,Uw,Uz,Uy,Ux,szV,Uu,Us,Uv,Ur,szN,Ut,U9]
              repeat' (first | with_reducible assumption | with_reducible refine And.intro ?_ ?_ | intro _ | omega | (rw [U0]; omega))
              all_goals first
                | (with_reducible refine Kl ?_; kernel_rfl)
                | omega
                | skip))
theorem goodn_CastV : ∀ n, Gj Tryz.prog (8, He n)
  | 0 => Ev (U7 Tryz.func8 (by kernel_rfl) rfl) con_CastV_zero
  | n + 1 => step_CastV n (goodn_CastV n)
end Go.Am.Ty
set_option linter.unusedSimpArgs false
set_option linter.unusedVariables false
set_option maxHeartbeats 2000000
namespace Go.Am.Ty
open Go.Proofs Go.Rose Go.Rose.Rose
open Enc (enc dec)
noncomputable def Dc : Con := He 100001
theorem good_CastVA : Gj Tryz.prog (8, Dc) := goodn_CastV _
theorem Pp : Dc = K7 (fun (v : Sl VNode) (t u : Sl Node) (_ : Int) => v.l.length ≤ 100000 ∧ (∃ x, Co v.l x) ∧ (∃ y, OneN t.l y) ∧ (∃ z, OneN u.l z) ∧ v.l.length < 100001) (fun v t u lab => Cn (castR lab (K1 arV v.l 0) (K1 ar t.l 0) (K1 ar u.l 0))) := rfl
noncomputable def con_FitsVA : Con := N2 1000001
theorem good_FitsVA : Gj Tryz.prog (24, con_FitsVA) := goodn_FitsV _
theorem con_FitsVA_d : con_FitsVA = Bg (fun (v : Sl VNode) (t : Sl Node) => v.l.length ≤ 1000000 ∧ (∃ x, Co v.l x) ∧ (∀ m ∈ v.l, L5 m) ∧ (∃ y, OneN t.l y) ∧ v.l.length < 1000001) (fun v t => fitsR (K1 arV v.l 0) (K1 ar t.l 0)) := rfl
def InVal (v : List VNode) : Prop := v.length ≤ 9223372036854775807 ∧ ∀ n ∈ v, (n.label.length ≤ 9223372036854775807 ∧ n.name.length ≤ 9223372036854775807) ∧ In n.t ∧ In n.u
theorem inW_of {v : List VNode} (h : InVal v) : InW v := ⟨h.1, fun n hn => ⟨(h.2 n hn).1, (h.2 n hn).2.1.1, (h.2 n hn).2.2.1⟩⟩
theorem few_of {v : List VNode} (h : fewV v 40 = true) : v.length ≤ 40 ∧ ∀ n ∈ v, longV n = false := by
  unfold fewV at h
  rw [G7] at h
  refine ⟨?_, fun n hn => ?_⟩
  · rcases Nat.lt_or_ge 40 v.length with h1 | h1
    · have := h 40 h1
      simp at this
    · exact h1
  · obtain ⟨j, hj, rfl⟩ := List.getElem_of_mem hn
    have := h j hj
    rw [Bool.not_eq_true', Bool.or_eq_false_iff] at this
    have h2 := this.2
    simpa [hj] using h2
theorem goodN_of {v : List VNode} (h : InVal v) (hf : fewV v 40 = true) : ∀ n ∈ v, Rg n := by
  intro n hn
  obtain ⟨⟨h1, h2⟩, ⟨h3, h4⟩, h5, h6⟩ := h.2 n hn
  have h7 := (few_of hf).2 n hn
  unfold longV at h7
  simp only [Bool.or_eq_false_iff, Nd] at h7
  exact ⟨⟨by omega, h4⟩, ⟨by omega, h6⟩, h2, h1⟩
theorem short_of {v : List VNode} (h : InVal v) : ∀ n ∈ v, L5 n := fun n hn => ⟨(h.2 n hn).2.1.1, (h.2 n hn).2.2.1⟩
theorem inV_of {v : List VNode} (h : InVal v) : InV v := ⟨h.1, short_of h⟩
noncomputable def givenB (v : List VNode) (l : List (Sl Node)) : Bool := (l.all fun t => Dz t.l 30) && (fewV v 40 && Fj v)
noncomputable def Px : Con := Bg (fun (v : Sl VNode) (l : Sl (Sl Node)) => InVal v.l ∧ l.l.length ≤ 9223372036854775807 ∧ ∀ t ∈ l.l, In t.l) (fun v l => givenB v.l l.l)
noncomputable def Dq : Ctx := ⟨tab, lkC [(11, B3), (12, S3), (13, Mj)], 60, lkB [], [], false⟩
theorem Fl : Dq.τ = tab := rfl
theorem Fn : Dq.Γ = lkC [(11, B3), (12, S3), (13, Mj)] := rfl
theorem Fm : Dq.dp = 60 := rfl
theorem Fo : Dq.Δ = lkB [] := rfl
theorem ctx_given19_w : Dq.wr = false := rfl
set_option maxRecDepth 100000 in
theorem good_given19 : Gj Tryz.prog (4, Px) := by
  refine ⟨U7 Tryz.func4 (by kernel_rfl) rfl, ?_⟩
  have K : Ky Tryz.prog Dq := Kd K6 Ki (by
    intro p hp
    simp only [List.mem_cons, List.not_mem_nil, or_false] at hp
    rcases hp with rfl | rfl | rfl
    · exact good_Plain7
    · exact good_Few19
    · exact good_Right19) (by simp)
  obtain ⟨c, hc⟩ : ∃ c, Tryz.f4.body = some c := ⟨_, rfl⟩
  refine Ke K Tryz.func4 hc [.tmp 4] rfl 24 rfl (fun cvs hpre => ?_)
  change Px.pre cvs at hpre
  unfold Px at hpre
  obtain ⟨⟨v⟩, ⟨l⟩, rfl, hV, hl, hN⟩ := Gi hpre
  simp only at hV hl hN
  have hW := inW_of hV
  have ⟨w1, w2⟩ : InW v := inW_of hV
  clear hpre
  simp only [Tryz.f4, Option.some.injEq] at hc
  subst hc
  (sym =>
   simp [Uw,Uz,Uy,Ux,szV,Uu,Us,Uv,Ur,szN,Ut,Px.eq_def,Za,Zb,Zc,Ze,Zf,Qq,Qs,Q1,Q2,Q4,Jw,J3,J4,Xv,X4,X6,X8,X9,Wc,Wf,Wh,Wt,Wu,Wv,Ww,Wy,W0,W6,W7,Yy,Y9,Va,Vb,Vc,Vj,Vu,V4,V5,Um,U8,Ku,Kc,U4,Kr,U3,Kb]
   tactic =>
    try simp only [U1] at *
    try simp only [nc2] at *
    try simp (maxSteps := 4000000) only [Uw,Uz,Uy,Ux,szV,Uu,Us,Uv,Ur,szN,Ut,U9]
    refine Km [4, 6, 7, 8, 9, 10, 11, 12, 13, 14, 15, 16, 17] (fun k : Nat => [(5, .d (.int .i64 k))]) (fun k : Nat => []) (fun k : Nat => k ≤ l.length ∧ ∀ j, j < k → Dz (l.getD j ⟨[]⟩).l 30 = true) (fun k : Nat => l.length - k) 0 ?_ ?_ ?_
    · simp
    · ((try simp only [U2, Ka, U6, Kg, upd, Kh, Ko, Gd, Nat.reduceDiv, Nat.reduceMod, Nat.reduceMul, Nat.reduceAdd, Nat.reduceEqDiff, List.set_cons_zero, List.set_cons_succ, if_true, if_false, reduceIte]); (first | refine Wk.of_fl ?_ | skip); simp only [Wk, wkK, Gl, wkT, wk1, AV.kept, keptAll, wkO, lk, U5, and_true, true_and, and_self, Nat.reduceEqDiff, Nat.reduceLeDiff, if_true, if_false, reduceIte, reduceCtorEq, Option.isSome, false_implies]; try simp [Wk, wkK, wkT, wk1, AV.kept, keptAll, wkO, lk, U5])
    rintro k ⟨hk, hno⟩
    rcases Ks k l.length with ⟨hlt, hlb⟩ | ⟨hlt, hlb⟩
    · obtain ⟨hNk1, hNk2⟩ := hN (l.getD k ⟨[]⟩) (by simp [hlt])
      have q1 := Kf (⟨[]⟩ : Sl Node) hlt
      obtain ⟨⟨t⟩, ht⟩ : ∃ t, l.getD k ⟨[]⟩ = t := ⟨_, rfl⟩
      rw [ht] at q1 hNk1 hNk2
      simp only at hNk1 hNk2
      cases hb : Dz t 30 with
      | false =>
        have hr : givenB v l = false := by
          unfold givenB
          rw [all_not (p := fun t : Sl Node => Dz t.l 30) ⟨[]⟩ k hlt (by rw [ht]; exact hb), Bool.false_and]
        (sym =>
         simp [hlb,q1,hb,hr,Uw,Uz,Uy,Ux,szV,Uu,Us,Uv,Ur,szN,Ut,Fl,Fn,Fm,Fo,S3.eq_def,B3.eq_def,Mj.eq_def,Zb,Zc,Ze,Zf,Zg,Zo,Zp,Zq,Zv,Zy,Z6,Z9,Qb,Qc,Qd,Qe,Qf,Qn,Qo,Qp,Qq,Qs,Q1,Q2,Q4,Q8,Jf,Jj,Jk,Jl,Jy,Jz,J0,Xf,Xu,Xv,X3,X4,X6,X7,X8,Wb,Wc,Wf,Wh,Wi,Wj,Wt,Wu,Wx,Wz,W0,Yd,Ye,Yf,Yi,Yj,Ym,Yy,Y0,Y1,Y3,Y6,Y7,Y8,Y9,Va,Vh,Vj,Vm,Vo,Vq,Vr,Vt,Vu,V4,V5,Uk,Um,Un,Uo,Up,U8,Ku,Kc,U4,Kr,U3,Kb]
         tactic =>
          try simp only [U1] at *
          try simp only [nc2] at *
          try simp (maxSteps := 4000000) only [hlb,q1,hb,hr,Uw,Uz,Uy,Ux,szV,Uu,Us,Uv,Ur,szN,Ut,U9]
          repeat' (first | with_reducible assumption | with_reducible refine And.intro ?_ ?_ | intro _ | omega | (rw [U0]; omega)))
      | true =>
        have hst : ∀ j, j < k + 1 → Dz (l.getD j ⟨[]⟩).l 30 = true := by
          intro j hj
          by_cases hjk : j = k
          · subst hjk; rw [ht]; exact hb
          · exact hno j (by omega)
        (sym =>
         simp [hlb,q1,hb,Uw,Uz,Uy,Ux,szV,Uu,Us,Uv,Ur,szN,Ut,Fl,Fn,Fm,Fo,ctx_given19_w,S3.eq_def,B3.eq_def,Mj.eq_def,Zb,Zc,Ze,Zf,Zg,Zo,Zp,Zq,Zv,Zy,Z6,Z9,Qb,Qc,Qd,Qe,Qf,Qq,Qs,Q1,Q2,Q4,Q8,Jf,Jj,Jl,Jy,Jz,J0,Xf,Xu,Xv,X3,X4,X6,X7,X8,Wc,Wf,Wh,Wi,Wj,Wt,Wu,Wx,Wz,W0,Yd,Ye,Yf,Yi,Yj,Ym,Yy,Y0,Y1,Y3,Y6,Y7,Y8,Y9,Va,Vh,Vj,Vm,Vo,Vp,Vr,Vt,Vu,V4,Uk,Ul,Um,Un,Uo,Up,U8,Ku,Kc,U4,Kr,U3,Kb]
         tactic =>
          try simp only [U1] at *
          try simp only [nc2] at *
          try simp (maxSteps := 4000000) only [hlb,q1,hb,Uw,Uz,Uy,Ux,szV,Uu,Us,Uv,Ur,szN,Ut,U9]
          repeat' (first | with_reducible assumption | with_reducible refine And.intro ?_ ?_ | intro _ | omega | (rw [U0]; omega))
          all_goals exact ⟨k + 1, by ((try simp only [U2, Ka, U6, Kg, upd, Kh, Ko, Gd, Nat.reduceDiv, Nat.reduceMod, Nat.reduceMul, Nat.reduceAdd, Nat.reduceEqDiff, List.set_cons_zero, List.set_cons_succ, if_true, if_false, reduceIte]); (first | refine Wk.of_fl ?_ | skip); simp only [Wk, wkK, Gl, wkT, wk1, AV.kept, keptAll, wkO, lk, U5, and_true, true_and, and_self, Nat.reduceEqDiff, Nat.reduceLeDiff, if_true, if_false, reduceIte, reduceCtorEq, Option.isSome, false_implies]; try simp [Wk, wkK, wkT, wk1, AV.kept, keptAll, wkO, lk, U5]), by omega, hst, by omega⟩)
    · have hr : givenB v l = (fewV v 40 && Fj v) := by
        unfold givenB
        rw [all_of_lt (p := fun t : Sl Node => Dz t.l 30) ⟨[]⟩ fun j hj => hno j (by omega), Bool.true_and]
      cases hf : fewV v 40 with
      | false =>
        rw [hf, Bool.false_and] at hr
        (sym =>
         simp [hlb,hf,hr,Uw,Uz,Uy,Ux,szV,Uu,Us,Uv,Ur,szN,Ut,Fl,Fn,Fm,Fo,S3.eq_def,B3.eq_def,Mj.eq_def,Zb,Zc,Zd,Ze,Zf,Zg,Zo,Zt,Z6,Z9,Qb,Qd,Qe,Qf,Qn,Qo,Qp,Qq,Qs,Q1,Q2,Q4,Q8,Jf,Jj,Jk,Jl,Jy,Jz,J0,Xf,Xu,Xv,X4,X6,X7,Wa,Wb,Wc,Wf,Wh,Wi,Wj,Wt,Wu,Wx,Wz,W0,W8,W9,Yd,Ye,Yi,Yy,Y0,Y1,Y6,Y7,Y8,Y9,Va,Vh,Vj,Vm,Vo,Vt,Vu,V4,V5,Ul,Um,Un,Uo,Up,U8,Ku,Kc,U4,Kr,U3,Kb]
         tactic =>
          try simp only [U1] at *
          try simp only [nc2] at *
          try simp (maxSteps := 4000000) only [hlb,hf,hr,Uw,Uz,Uy,Ux,szV,Uu,Us,Uv,Ur,szN,Ut,U9]
          repeat' (first | with_reducible assumption | with_reducible refine And.intro ?_ ?_ | intro _ | omega | (rw [U0]; omega))
          all_goals first
            | exact hW
            | exact w2
            | exact w2 _ (by assumption)
            | (have := w2 _ (by assumption); simp_all [L5]; done)
            | skip)
      | true =>
        rw [hf, Bool.true_and] at hr
        have hG := goodN_of hV hf
        have hle := (few_of hf).1
        (sym =>
         simp [hlb,hf,hr,Uw,Uz,Uy,Ux,szV,Uu,Us,Uv,Ur,szN,Ut,Fl,Fn,Fm,Fo,S3.eq_def,B3.eq_def,Mj.eq_def,Zb,Zc,Zd,Ze,Zf,Zg,Zo,Zt,Z6,Z9,Qb,Qd,Qe,Qf,Qn,Qo,Qp,Qq,Qs,Q1,Q2,Q4,Q8,Jf,Jj,Jk,Jl,Jy,Jz,J0,Xf,Xu,Xv,X4,X6,X7,Wa,Wb,Wc,Wf,Wh,Wi,Wj,Wt,Wu,Wx,Wz,W0,W8,W9,Yd,Ye,Yi,Yy,Y0,Y1,Y6,Y7,Y8,Y9,Va,Vh,Vj,Vm,Vo,Vt,Vu,V4,V5,Uk,Ul,Um,Un,Uo,Up,U8,Ku,Kc,U4,Kr,U3,Kb]
         tactic =>
          try simp only [U1] at *
          try simp only [nc2] at *
          try simp (maxSteps := 4000000) only [hlb,hf,hr,Uw,Uz,Uy,Ux,szV,Uu,Us,Uv,Ur,szN,Ut,U9]
          repeat' (first | with_reducible assumption | with_reducible refine And.intro ?_ ?_ | intro _ | omega | (rw [U0]; omega))
          all_goals first
            | exact hW
            | exact hG
            | omega
            | skip))
def aX : Rose VNode := mk ⟨4, [], [], 0, 1, [], []⟩ [mk ⟨0, [97], [], 1, 0, [], []⟩ []]
def aT (k : Int) : Rose Node := mk ⟨6, [], 1⟩ [mk ⟨k, [97], 0⟩ []]
theorem aT_nds (k : Int) : nds (aT k) = [⟨6, [], 1⟩, ⟨k, [97], 0⟩] := rfl
theorem aX_one : Co [⟨4, [], [], 0, 1, [], []⟩, ⟨0, [97], [], 1, 0, [], []⟩] aX := ⟨rfl, ⟨rfl, ⟨rfl, trivial⟩, trivial⟩⟩
theorem aT_one {k : Int} (h : ar ⟨k, [97], 0⟩ = 0) : OneN [⟨6, [], 1⟩, ⟨k, [97], 0⟩] (aT k) := ⟨rfl, ⟨rfl, ⟨h.symm, trivial⟩, trivial⟩, by rw [aT_nds]; simp⟩
theorem aX_ok : okV aX 1 = true := by rfl
theorem aX_right : Fj (nds aX) = true := right19_iff.2 ⟨aX, rfl, ⟨aX_one.2, by decide, rfl, aX_ok⟩⟩
def Py : Con := con0 true
noncomputable def F4 : Ctx := ⟨tab, lkC [(8, Dc), (22, S2), (23, Lr), (24, con_FitsVA)], 60, lkB [], [], false⟩
theorem ctx_alive19_t : F4.τ = tab := rfl
theorem ctx_alive19_c : F4.Γ = lkC [(8, Dc), (22, S2), (23, Lr), (24, con_FitsVA)] := rfl
theorem ctx_alive19_d : F4.dp = 60 := rfl
theorem ctx_alive19_b : F4.Δ = lkB [] := rfl
set_option maxRecDepth 100000 in
theorem good_alive19 : Gj Tryz.prog (7, Py) := by
  refine ⟨U7 Tryz.func7 (by kernel_rfl) rfl, ?_⟩
  have K : Ky Tryz.prog F4 := Kd K6 Ki (by
    intro p hp
    simp only [List.mem_cons, List.not_mem_nil, or_false] at hp
    rcases hp with rfl | rfl | rfl | rfl
    · exact good_CastVA
    · exact good_SameV
    · exact good_RightV
    · exact good_FitsVA) (by simp)
  obtain ⟨c, hc⟩ : ∃ c, Tryz.f7.body = some c := ⟨_, rfl⟩
  refine Ke K Tryz.func7 hc [.tmp 0] rfl 50 rfl (fun cvs hpre => ?_)
  change Py.pre cvs at hpre
  unfold Py at hpre
  obtain rfl := con0_pre hpre
  have x1 := aX_one.tree
  have hex : ∃ x, Co [⟨4, [], [], 0, 1, [], []⟩, ⟨0, [97], [], 1, 0, [], []⟩] x := ⟨_, aX_one⟩
  have o0 := aT_one (k := 0) rfl
  have o1 := aT_one (k := 1) rfl
  have o2 := aT_one (k := 2) rfl
  have t0 := o0.tree
  have t1 := o1.tree
  have t2 := o2.tree
  have c1 : Cn (castR 3 aX (aT 0) (aT 1)) = (⟨[⟨4, [], [], 0, 1, [], []⟩, ⟨0, [97], [], 1, 0, [], []⟩]⟩, true) := by rfl
  have c2 : Cn (castR 3 aX (aT 0) (aT 2)) = (⟨[]⟩, false) := by rfl
  have hs : Lu [⟨4, [], [], 0, 1, [], []⟩, ⟨0, [97], [], 1, 0, [], []⟩] [⟨4, [], [], 0, 1, [], []⟩, ⟨0, [97], [], 1, 0, [], []⟩] = true := by unfold Lu; rw [beq_self_eq_true]
  have hr : rightV [⟨4, [], [], 0, 1, [], []⟩, ⟨0, [97], [], 1, 0, [], []⟩] = true := by rw [rightV_same]; exact aX_right
  have hf : fitsR aX (aT 0) = true := by rfl
  have hI : InV [⟨4, [], [], 0, 1, [], []⟩, ⟨0, [97], [], 1, 0, [], []⟩] := ⟨by simp, by intro n hn; simp at hn; rcases hn with rfl | rfl <;> exact ⟨by simp, by simp⟩⟩
  have hG : ∀ m ∈ [(⟨4, [], [], 0, 1, [], []⟩ : VNode), ⟨0, [97], [], 1, 0, [], []⟩], Rg m := by
    intro n hn
    simp at hn
    rcases hn with rfl | rfl <;> exact ⟨⟨by simp, by intro m hm; simp at hm⟩, ⟨by simp, by intro m hm; simp at hm⟩, by simp, by simp⟩
  have hS : ∀ m ∈ [(⟨4, [], [], 0, 1, [], []⟩ : VNode), ⟨0, [97], [], 1, 0, [], []⟩], L5 m := fun m hm => short_VN (hG m hm)
  simp only [Tryz.f7, Option.some.injEq] at hc
  subst hc
  refine Kw 3 (of_decide_eq_true (by kernel_rfl)) ?_
  (sym =>
   simp [K7.eq_def,Pp,con_FitsVA_d,dec_VNodeN,isE_VNodeN,x1,t0,t1,t2,c1,c2,hs,hr,hf,Uw,Uz,Uy,Ux,szV,Uu,Us,Uv,Ur,szN,Ut,ctx_alive19_t,ctx_alive19_c,ctx_alive19_d,ctx_alive19_b,Lr.eq_def,S2.eq_def,Py.eq_def,Zb,Zc,Zd,Ze,Zf,Zo,Zr,Zt,Z1,Z2,Z8,Z9,Qc,Qd,Qe,Qf,Qg,Qh,Ql,Qn,Qo,Qp,Qq,Qs,Q1,Q2,Q4,Q7,Q8,Q9,Ja,Jb,Jc,Jd,Je,Jf,Jg,Jh,Ji,Jj,Jk,Jl,Jw,J3,J4,J5,J6,J7,J8,J9,Xa,Xb,Xc,Xd,Xe,Xf,Xg,Xh,Xj,Xl,Xm,Xn,Xo,Xr,Xs,Xt,Xu,Xv,X4,X6,Wb,Wc,Wf,Wh,Wi,Wj,Wm,Wn,Wt,Wu,Wv,Ww,Wx,Wy,Wz,W0,W3,W4,W5,W6,W7,W8,W9,Ya,Yb,Yf,Yj,Yn,Yo,Yq,Yy,Y7,Y8,Y9,Va,Vc,Vd,Ve,Vf,Vg,Vh,Vj,Vk,Vm,Vo,Vq,Vt,Vu,V3,V4,V5,V6,V8,V9,Ud,Ue,Uk,Um,Un,Uo,Ku,Kc,U4,U3,Kb]
   tactic =>
    try simp only [U1] at *
    try simp only [nc2] at *
    try simp (maxSteps := 4000000) only [K7.eq_def,Pp,con_FitsVA_d,dec_VNodeN,isE_VNodeN,x1,t0,t1,t2,c1,c2,hs,hr,hf,Uw,Uz,Uy,Ux,szV,Uu,Us,Uv,Ur,szN,Ut,U9]
    repeat' (first | with_reducible assumption | with_reducible refine And.intro ?_ ?_ | intro _ | omega | (rw [U0]; omega))
    all_goals first
      | exact hex
      | exact ⟨_, o0⟩
      | exact ⟨_, o1⟩
      | exact ⟨_, o2⟩
      | exact hI
      | exact hG
      | exact hS
      | exact hG _ (by simp)
      | exact hS _ (by simp)
      | (with_reducible refine Kl ?_; kernel_rfl)
      | omega
      | skip)
end Go.Am.Ty
set_option linter.unusedSimpArgs false
set_option linter.unusedVariables false
set_option maxHeartbeats 2000000
namespace Go.Am.Ty
open Go.Proofs Go.Rose Go.Rose.Rose
open Enc (enc dec)
def PT (y : Rose Node) : Prop := RT y ∧ Nt (nds y) = true
theorem PT.ty {y : Rose Node} (h : PT y) : TyT y := ⟨h.1.wf, by have := h.1.len; omega⟩
theorem clrX_depth (x : Rose Node) : depth (M2 x) = depth x := by cases x; rfl
theorem labT_clrX : ∀ x : Rose Node, labT (M2 x) = labT x
  | mk n ks => by
    rw [M2, labT, labT]
    rfl
theorem labTs_get : ∀ {ks : List (Rose Node)}, labTs ks = true → ∀ j (h : j < ks.length), labT ks[j] = true
  | [], _, j, h => by simp at h
  | x :: xs, hl, j, h => by
    rw [labTs, Bool.and_eq_true] at hl
    cases j with
    | zero => exact hl.1
    | succ j => exact labTs_get hl.2 j (by simpa using h)
theorem depths_at : ∀ {ks : List (Rose Node)} (j) (h : j < ks.length), depth ks[j] ≤ depths ks
  | [], j, h => by simp at h
  | x :: xs, j, h => by
    rw [depths]
    cases j with
    | zero => simp only [List.getElem_cons_zero]; omega
    | succ j => have := depths_at (ks := xs) j (by simpa using h); simp only [List.getElem_cons_succ]; omega
theorem kid_memN {x : Rose Node} {i : Nat} (h : i < x.kids.length) : ∀ m ∈ nds x.kids[i], m ∈ nds x := by
  intro m hm
  rw [Nc]
  refine List.mem_cons_of_mem _ ?_
  generalize x.kids = ks at h hm ⊢
  induction ks generalizing i with
  | nil => simp at h
  | cons y ys ih =>
    rw [ndss, List.mem_append]
    cases i with
    | zero => exact .inl hm
    | succ i => exact .inr (ih (by simpa using h) (by simpa using hm))
theorem pt_kid {t : Rose Node} (h : PT t) {j : Nat} (hj : j < t.kids.length) : PT (M2 t.kids[j]) := by
  obtain ⟨h1, h2⟩ := h
  have hm := kid_memN hj
  have hn : Cp (nds t.kids[j]) := fun n hn => h1.numb n (hm n hn)
  have hp : Nt (nds t.kids[j]) = true := by
    rw [P9] at *
    exact fun n hn => h2 n (hm n hn)
  have hw := Rh.1 h1.wf
  have hd := h1.depth
  have hl := h1.lab
  have hlen := h1.len
  have hd2 := depths_at j hj
  have hlen2 := ndsN_get hj
  obtain ⟨n, ks⟩ := t
  simp only [kids, root] at *
  rw [depth] at hd
  rw [labT, Bool.and_eq_true] at hl
  rw [Ho, List.length_cons] at hlen
  have hcn : Cp (nds (M2 ks[j])) := by rw [Fu]; exact clr_numb hn
  have hcp : Nt (nds (M2 ks[j])) = true := by rw [Fu]; exact clr_plain hp
  refine ⟨⟨wf_clrX (Oc hw.2 _ (List.getElem_mem hj)), hcn, by rw [clrX_depth]; omega, by rw [labT_clrX]; exact labTs_get hl.2 j hj, ?_, ?_, by rw [clrX_nlen]; omega⟩, hcp⟩
  · cases ks[j]; rfl
  · exact (P9.1 hcp _ (Ld _)).2
theorem pt_dyn : PT Gu := ⟨⟨⟨rfl, trivial⟩, by intro n hn; rw [nds_dynT, List.mem_singleton] at hn; rw [hn]; rfl, by decide, rfl, rfl, by decide, by rw [nds_dynT]; decide⟩, rfl⟩
theorem pt_dynF : PT dynFT := by
  refine ⟨⟨⟨rfl, ⟨rfl, trivial⟩, ⟨rfl, trivial⟩, trivial⟩, ?_, by decide, rfl, rfl, by decide, by rw [Er]; decide⟩, rfl⟩
  intro n hn
  have : n = ⟨5, [], 0⟩ ∨ n = ⟨0, [], 0⟩ ∨ n = ⟨0, [], 0⟩ := by
    have h : n ∈ [(⟨5, [], 0⟩ : Node), ⟨0, [], 0⟩, ⟨0, [], 0⟩] := hn
    simpa using h
  rcases this with rfl | rfl | rfl <;> rfl
theorem pt_parts {n : VNode} {ks : List (Rose VNode)} {t : Rose Node} {l : List (Rose Node)} (ht : PT t) (h : Gk n ks t = some l) : ∀ y ∈ l, PT y :=
  partsR_in h pt_dyn fun _ hj => pt_kid ht hj
theorem plain7_pt {t : List Node} {m : Int} (h : Dz t m = true) : (t.length : Int) ≤ m ∧ ∃ y, t = nds y ∧ PT y := by
  obtain ⟨h1, _, h2, y, rfl, hy⟩ := plain7_rt h
  exact ⟨h1, y, rfl, hy, h2⟩
mutual
def normX : Rose Node → Rose Node
  | mk n ks => mk (Hx n) (normXs ks)
def normXs : List (Rose Node) → List (Rose Node)
  | [] => []
  | x :: xs => normX x :: normXs xs
end
theorem Ib : ∀ ks : List (Rose Node), normXs ks = ks.map normX
  | [] => rfl
  | x :: xs => by rw [normXs, Ib, List.map_cons]
mutual
theorem nds_normX : ∀ x : Rose Node, nds (normX x) = (nds x).map Hx
  | mk n ks => by rw [normX, Ho, Ho, List.map_cons, ndss_normX]
theorem ndss_normX : ∀ ks : List (Rose Node), ndss (normXs ks) = (ndss ks).map Hx
  | [] => rfl
  | x :: xs => by rw [normXs, ndss, ndss, List.map_append, nds_normX, ndss_normX]
end
theorem C4 (n : Node) : (Hx n).kind = n.kind := by unfold Hx; split <;> rfl
theorem Rq (n : Node) : (Hx n).name = n.name := by unfold Hx; split <;> rfl
theorem norm_n {n : Node} (h : n.kind ≠ 0) : (Hx n).n = n.n := by unfold Hx; rw [if_neg h]
theorem norm_norm (n : Node) : Hx (Hx n) = Hx n := by
  unfold Hx
  by_cases h : n.kind = 0
  · simp [h]
  · simp [h]
theorem norm_ar (n : Node) : ar (Hx n) = ar n := by
  by_cases h : n.kind = 0
  · rw [Ia h, Ia (by rw [C4]; exact h)]
  · unfold Hx; rw [if_neg h]
theorem norm_clr (n : Node) : Hx (clrN n) = clrN (Hx n) := by
  unfold Hx clrN
  by_cases h : n.kind = 0 <;> simp [h]
theorem Ln (x : Rose Node) : (normX x).root = Hx x.root := by cases x; rfl
theorem normX_kids (x : Rose Node) : (normX x).kids = x.kids.map normX := by cases x; rw [normX, Ib]; rfl
theorem normX_clr : ∀ x : Rose Node, normX (M2 x) = M2 (normX x)
  | mk n ks => by
    rw [M2, normX, normX, M2, norm_clr]
mutual
theorem wf_normX : ∀ {x : Rose Node}, wf ar x → wf ar (normX x)
  | mk n ks, h => by
    rw [normX]
    exact ⟨by rw [norm_ar, ← h.1, Ib, List.length_map], wfs_normX h.2⟩
theorem wfs_normX : ∀ {ks : List (Rose Node)}, wfs ar ks → wfs ar (normXs ks)
  | [], _ => trivial
  | x :: xs, h => ⟨wf_normX h.1, wfs_normX h.2⟩
end
theorem same3_norm {x y : Rose Node} (hx : wf ar x) (hy : wf ar y) : Gp (nds x) (nds y) = true ↔ normX x = normX y := by
  unfold Gp
  rw [beq_iff_eq, ← nds_normX, ← nds_normX]
  constructor
  · intro h
    exact (nds_inj (r := []) (s := []) (wf_normX hx) (wf_normX hy) (by rw [h])).1
  · intro h
    rw [h]
theorem same3_normR (a b : List Node) : Gp a (b.map Hx) = Gp a b := by
  unfold Gp
  rw [List.map_map]
  congr 2
  funext n
  exact norm_norm n
theorem same3_normL (a b : List Node) : Gp (a.map Hx) b = Gp a b := by
  unfold Gp
  rw [List.map_map]
  congr 2
  funext n
  exact norm_norm n
theorem same3_comm (a b : List Node) : Gp a b = Gp b a := by unfold Gp; rw [Bool.beq_comm]
theorem same3_trans {a b c : List Node} (h1 : Gp a b = true) (h2 : Gp b c = true) : Gp a c = true := by
  unfold Gp at *
  rw [beq_iff_eq] at *
  exact h1.trans h2
theorem A4 {x y : Rose Node} (h : Gp (nds x) (nds y) = true) : x.root.kind = y.root.kind := by
  unfold Gp at h
  rw [beq_iff_eq, Nc, Nc, List.map_cons, List.map_cons, List.cons.injEq] at h
  have := congrArg Node.kind h.1
  rwa [C4, C4] at this
theorem findIdx_norm (ks : List (Rose Node)) (s : List UInt8) : (ks.map normX).findIdx? (fun k => k.root.name == s) = ks.findIdx? (fun k => k.root.name == s) := by
  induction ks with
  | nil => rfl
  | cons x xs ih =>
    rw [List.map_cons, List.findIdx?_cons, List.findIdx?_cons, ih, Ln, Rq]
theorem field_norm (t : Rose Node) (s : List UInt8) : Hb (normX t) s = (Hb t s).map normX := by
  unfold Hb
  rw [normX_kids, findIdx_norm]
  cases h : t.kids.findIdx? (fun k => k.root.name == s) with
  | none => rfl
  | some j =>
    have hj : j < t.kids.length := (List.findIdx?_eq_some_iff_getElem.1 h).1
    simp only [Option.map_some]
    rw [normX_clr]
    simp [hj]
theorem fields_norm (t : Rose Node) : ∀ ks : List (Rose VNode), Hl (normX t) ks = (Hl t ks).map (List.map normX)
  | [] => rfl
  | k :: ks => by
    rw [Hl, Hl, field_norm, fields_norm t ks]
    cases Hb t k.root.label with
    | none => rfl
    | some y =>
      simp only [Option.map_some]
      cases Hl t ks <;> rfl
theorem parts_norm (n : VNode) (ks : List (Rose VNode)) (t : Rose Node) : Gk n ks (normX t) = (Gk n ks t).map (List.map normX) := by
  unfold Gk
  rw [Ln, C4]
  cases h0 : (t.root.kind == 0) with
  | true =>
    simp only [cond_true, Option.map_some, List.map_replicate]
    rfl
  | false =>
    simp only [cond_false]
    rw [norm_n (by simpa using h0)]
    cases h1 : (t.root.kind == 7 && n.kind == 5) with
    | true =>
      simp only [cond_true]
      rw [field_norm]
      cases Hb t n.name <;> rfl
    | false =>
      simp only [cond_false]
      cases h2 : (t.root.kind == 6 && (n.kind == 4 && t.root.n == (ks.length : Int))) with
      | true => simp only [cond_true]; exact fields_norm t ks
      | false => rfl
mutual
theorem fits_norm : ∀ (x : Rose VNode) (t : Rose Node), fitsR x (normX t) = fitsR x t
  | mk n ks, t => by
    rw [fitsR, fitsR, Ln, C4, nds_normX, same3_normR, parts_norm]
    cases hp : Gk n ks t with
    | none => rfl
    | some l =>
      simp only [Option.map_some]
      rw [fitss_norm ks l]
theorem fitss_norm : ∀ (ks : List (Rose VNode)) (l : List (Rose Node)), fitsRs ks (l.map normX) = fitsRs ks l
  | [], l => by rw [fitsRs, fitsRs]
  | k :: ks, l => by
    rw [fitsRs, fitsRs, ← List.map_tail, fitss_norm ks l.tail]
    congr 1
    cases l with
    | nil => rfl
    | cons a r => exact fits_norm k a
end
theorem fits_same {x : Rose VNode} {t u : Rose Node} (ht : wf ar t) (hu : wf ar u) (h : Gp (nds t) (nds u) = true) : fitsR x t = fitsR x u := by
  rw [← fits_norm x t, (same3_norm ht hu).1 h, fits_norm]
theorem Ru (ks : List (Rose Node)) (s : List UInt8) : ks.findIdx? (fun k => k.root.name == s) = (N3 ks).findIdx? (fun a => a == s) := by
  unfold N3
  rw [List.findIdx?_map]
  rfl
theorem field_none {t u : Rose Node} {s : List UInt8} (hl : N3 t.kids = N3 u.kids) (h : Hb t s = none) : Hb u s = none := by
  unfold Hb at *
  rw [Option.map_eq_none_iff] at *
  rw [Ru, ← hl, ← Ru]
  exact h
theorem field_ag {f : Bool} {t u y z : Rose Node} {s : List UInt8} (hl : N3 t.kids = N3 u.kids) (hk : ∀ j, j < t.kids.length → agX f (t.kids.getD j (mk n0 [])) (u.kids.getD j (mk n0 [])) = true) (h1 : Hb t s = some y) (h2 : Hb u s = some z) : agX f y z = true := by
  unfold Hb at h1 h2
  rw [Ru] at h1 h2
  rw [← hl] at h2
  rw [← Ru] at h1 h2
  rw [Option.map_eq_some_iff] at h1 h2
  obtain ⟨j, g1, rfl⟩ := h1
  obtain ⟨i, g2, rfl⟩ := h2
  rw [g1] at g2
  injection g2 with g2
  subst g2
  rw [agX_clr]
  exact hk j (List.findIdx?_eq_some_iff_getElem.1 g1).1
theorem fieldsR_at {t : Rose Node} : ∀ {ks : List (Rose VNode)} {l : List (Rose Node)}, Hl t ks = some l → ∀ j (h : j < ks.length) (h2 : j < l.length), Hb t ks[j].root.label = some l[j]
  | [], l, _, j, h, _ => by simp at h
  | k :: ks, l, hf, j, h, h2 => by
    rw [Hl] at hf
    cases hx : Hb t k.root.label with
    | none => rw [hx] at hf; cases hf
    | some y =>
      rw [hx] at hf
      simp only [Option.map_eq_some_iff] at hf
      obtain ⟨l', g1, rfl⟩ := hf
      cases j with
      | zero => exact hx
      | succ j => exact fieldsR_at g1 j (by simpa using h) (by simpa using h2)
theorem ag_parts {f : Bool} {t u : Rose Node} (ht : PT t) (hu : PT u) (h0 : t.root.kind ≠ 0) (h1 : u.root.kind ≠ 0) (h : agX f t u = true) :
    t.root.kind = u.root.kind ∧ N3 t.kids = N3 u.kids ∧ t.root.n = u.root.n ∧ ∀ j, j < t.kids.length → agX f (t.kids.getD j (mk n0 [])) (u.kids.getD j (mk n0 [])) = true := by
  have := (ag_iff ht.1.wf hu.1.wf ht.1.numb hu.1.numb ht.2 h0 h1).1 h
  obtain ⟨g1, g2⟩ := this
  unfold alikeX at g1
  rw [Bool.and_eq_true, beq_iff_eq, beq_iff_eq] at g1
  refine ⟨g1.1, g1.2, ?_, g2⟩
  have hl : t.kids.length = u.kids.length := by rw [← Hd (ks := t.kids), g1.2, Hd]
  exact num_eq g1.1 (by rw [← (Rh.1 ht.1.wf).1, ← (Rh.1 hu.1.wf).1, hl]) h0 (ht.1.numb _ (Ld t)) (hu.1.numb _ (Ld u)) (P9.1 ht.2 _ (Ld t))
theorem ag_dyn2 {f : Bool} {x : Rose Node} : agX f x Gu = true := by
  rw [agX_dyn (.inr rfl)]
  unfold askB
  cases f <;> rfl
theorem ag_dyn1 {x : Rose Node} : agX false Gu x = true := by
  rw [agX_dyn (.inl rfl)]
  rfl
theorem below_dyn {t u : Rose Node} (h : agX true t u = true) (h0 : t.root.kind = 0) : u.root.kind = 0 := by
  rw [agX_dyn (.inl h0)] at h
  simpa [askB] using h
theorem parts_ag {f : Bool} {n : VNode} {ks : List (Rose VNode)} {t u : Rose Node} {a b : List (Rose Node)} (ht : PT t) (hu : PT u) (hk : n.kind = 5 → ks.length = 1) (h : agX f t u = true) (ha : Gk n ks t = some a) (hb : Gk n ks u = some b) :
    ∀ j, j < ks.length → agX f (a.getD j Gu) (b.getD j Gu) = true := by
  intro j hj
  have hal := Se ha hk
  have hbl := Se hb hk
  by_cases u0 : u.root.kind = 0
  · have : b = List.replicate ks.length Gu := by
      unfold Gk at hb
      rw [show (u.root.kind == 0) = true by simp [u0], cond_true] at hb
      injection hb with hb
      exact hb.symm
    rw [this]
    simp only [List.getD_eq_getElem?_getD, List.getElem?_replicate, hj, if_true, Option.getD_some]
    exact ag_dyn2
  · by_cases t0 : t.root.kind = 0
    · have : a = List.replicate ks.length Gu := by
        unfold Gk at ha
        rw [show (t.root.kind == 0) = true by simp [t0], cond_true] at ha
        injection ha with ha
        exact ha.symm
      rw [this]
      simp only [List.getD_eq_getElem?_getD, List.getElem?_replicate, hj, if_true, Option.getD_some]
      cases f with
      | false => exact ag_dyn1
      | true => exact absurd (below_dyn h t0) u0
    · obtain ⟨g1, g2, g3, g4⟩ := ag_parts ht hu t0 u0 h
      unfold Gk at ha hb
      rw [show (t.root.kind == 0) = false by simp [t0], cond_false] at ha
      rw [show (u.root.kind == 0) = false by simp [u0], cond_false] at hb
      rw [← g1, ← g3] at hb
      cases c1 : (t.root.kind == 7 && n.kind == 5) with
      | true =>
        rw [c1, cond_true, Option.map_eq_some_iff] at ha hb
        obtain ⟨y, y1, rfl⟩ := ha
        obtain ⟨z, z1, rfl⟩ := hb
        simp only [List.length_singleton] at hal
        have : j = 0 := by omega
        subst this
        exact field_ag g2 g4 y1 z1
      | false =>
        rw [c1, cond_false] at ha hb
        cases c2 : (t.root.kind == 6 && (n.kind == 4 && t.root.n == (ks.length : Int))) with
        | false => rw [c2, cond_false] at ha; cases ha
        | true =>
          rw [c2, cond_true] at ha hb
          have q1 := fieldsR_at ha j hj (by omega)
          have q2 := fieldsR_at hb j hj (by omega)
          have := field_ag g2 g4 q1 q2
          simpa [hal, hbl, hj] using this
end Go.Am.Ty
set_option linter.unusedSimpArgs false
set_option linter.unusedVariables false
set_option maxHeartbeats 2000000
namespace Go.Am.Ty
open Go.Proofs Go.Rose Go.Rose.Rose
open Enc (enc dec)
theorem T1 {α : Type} {n : α} {ks : List (Rose α)} : (mk n ks).root = n := rfl
theorem Rr {α : Type} {n : α} {ks : List (Rose α)} : (mk n ks).kids = ks := rfl
theorem norm_numb {n : Node} (h : B5 n = true) : B5 (Hx n) = true := by
  unfold Hx
  split
  · next h0 =>
    unfold B5
    rw [if_pos (.inl h0)]
    simp
  · exact h
mutual
theorem depth_normX : ∀ x : Rose Node, depth (normX x) = depth x
  | mk n ks => by rw [normX, depth, depth, depths_normX]
theorem depths_normX : ∀ ks : List (Rose Node), depths (normXs ks) = depths ks
  | [] => rfl
  | x :: xs => by rw [normXs, depths, depths, depth_normX, depths_normX]
end
theorem labK_norm {p x q : Node} {a b : Bool} : labK (Hx p) (Hx x) (Hx q) a b = labK p x q a b := by
  unfold labK Il
  rw [C4, C4, Rq, Rq]
theorem normXs_getD (ks : List (Rose Node)) (k : Nat) : ((normXs ks).getD k (mk n0 [])).root = Hx (ks.getD k (mk n0 [])).root := by
  rw [Ib]
  by_cases h : k < ks.length
  · simp [h, Ln]
  · rw [List.getD_eq_getElem?_getD, List.getElem?_eq_none (by simpa using h), List.getD_eq_getElem?_getD, List.getElem?_eq_none (by omega)]
    rfl
theorem labZ_norm (n : Node) (ks : List (Rose Node)) : labZ (Hx n) (normXs ks) = labZ n ks := by
  unfold labZ
  rw [show (normXs ks).length = ks.length by rw [Ib, List.length_map]]
  congr 1
  funext k
  rw [normXs_getD, normXs_getD, labK_norm]
mutual
theorem labT_normX : ∀ x : Rose Node, labT (normX x) = labT x
  | mk n ks => by rw [normX, labT, labT, labZ_norm, labTs_normX]
theorem labTs_normX : ∀ ks : List (Rose Node), labTs (normXs ks) = labTs ks
  | [] => rfl
  | x :: xs => by rw [normXs, labTs, labTs, labT_normX, labTs_normX]
end
theorem pt_norm {t : Rose Node} (h : PT t) : PT (normX t) := by
  obtain ⟨h1, h2⟩ := h
  refine ⟨⟨wf_normX h1.wf, ?_, by rw [depth_normX]; exact h1.depth, by rw [labT_normX]; exact h1.lab, by rw [Ln, Rq]; exact h1.name, by rw [Ln, C4]; exact h1.kind, by rw [nds_normX, List.length_map]; exact h1.len⟩, ?_⟩
  · intro n hn
    rw [nds_normX, List.mem_map] at hn
    obtain ⟨m, hm, rfl⟩ := hn
    exact norm_numb (h1.numb m hm)
  · rw [P9] at *
    intro n hn
    rw [nds_normX, List.mem_map] at hn
    obtain ⟨m, hm, rfl⟩ := hn
    rw [C4]
    exact h2 m hm
mutual
theorem ov_norm {f : Bool} : ∀ x y : Rose Node, ov f (normX x) (normX y) = ov f x y
  | mk n ks, mk m qs => by
    rw [normX, normX, ov_mk, ov_mk]
    simp only [root, kids, C4]
    cases h : (n.kind == 0 || m.kind == 0) with
    | true => simp only [cond_true, askB, C4]
    | false =>
      rw [Bool.or_eq_false_iff, beq_eq_false_iff_ne, beq_eq_false_iff_ne] at h
      simp only [cond_false]
      rw [ovs_norm ks qs]
      unfold sameN
      rw [C4, C4, Rq, Rq, norm_n h.1, norm_n h.2]
theorem ovs_norm {f : Bool} : ∀ xs ys : List (Rose Node), ovs f (normXs xs) (normXs ys) = ovs f xs ys
  | [], [] => rfl
  | [], y :: ys => by rw [normXs, normXs, ovs, ovs]
  | x :: xs, [] => by rw [normXs, normXs, ovs, ovs]
  | x :: xs, y :: ys => by rw [normXs, normXs, ovs, ovs, ov_norm x y, ovs_norm xs ys, Ln, Ln, Rq, Rq]
end
theorem ag_norm {f : Bool} (x y : Rose Node) : agX f (normX x) (normX y) = agX f x y := by
  unfold agX
  rw [← normX_clr, ← normX_clr, ov_norm]
theorem arrR_pt {t : Rose Node} (h : PT t) : PT (Ps t) := by
  unfold Ps
  cases t.root.kind == 0 with
  | true => exact pt_dynF
  | false => exact h
theorem arrow_pt {t : Rose Node} (h : PT t) (h5 : t.root.kind = 5) : Mh (nds t) = true := by
  rw [Be]
  refine ⟨right3_rt h.1, h.2, ?_⟩
  rw [Nc]
  simp [h5]
theorem root_arrow {t : Rose Node} (h : Mh (nds t) = true) : t.root.kind = 5 := by
  have := (Be.1 h).2.2
  rw [Nc] at this
  simpa using this
theorem agX_dynF1 {u : Rose Node} (hu : PT u) (h5 : u.root.kind = 5) : agX false dynFT u = true := by
  have hw := (Rh.1 hu.1.wf).1
  have hk : u.kids.length = 2 := by rw [hw]; unfold ar; rw [if_pos h5]
  rw [ag_iff pt_dynF.1.wf hu.1.wf pt_dynF.1.numb hu.1.numb pt_dynF.2 (by decide) (by rw [h5]; decide)]
  have hz := hu.1.lab
  obtain ⟨n, ks⟩ := u
  simp only [T1, Rr] at *
  rw [labT, Bool.and_eq_true] at hz
  have hz1 := hz.1
  unfold labZ at hz1
  rw [G7] at hz1
  have hp := P9.1 hu.2
  match ks, hk with
  | [a, b], _ =>
    have l0 := hz1 0 (by simp)
    have l1 := hz1 1 (by simp)
    have p0 := (hp a.root (by rw [Ho, ndss, Nc]; simp)).2
    have p1 := (hp b.root (by rw [Ho, ndss, ndss, Nc b]; simp)).2
    unfold labK at l0 l1
    simp only [List.getD_cons_zero, List.getD_cons_succ] at l0 l1
    rw [show (a.root.kind == 9) = false by simp [p0]] at l0
    rw [show (b.root.kind == 9) = false by simp [p1]] at l1
    have r5 : Il n = false := by unfold Il; simp [h5]
    rw [r5] at l0 l1
    simp [h5] at l0 l1
    refine ⟨?_, ?_⟩
    · unfold alikeX N3
      simp only [T1, Rr, dynFT, n5, Gu, List.map_cons, List.map_nil, h5, l0, l1]
      rfl
    · intro j hj
      have : j = 0 ∨ j = 1 := by simp only [dynFT, Rr, List.length_cons, List.length_nil] at hj; omega
      rcases this with rfl | rfl
      · exact ag_dyn1
      · exact ag_dyn1
theorem ag_comm {x y : Rose Node} (hx : PT x) (hy : PT y) : agX false x y = agX false y x := by
  unfold agX
  exact ov_comm (wf_clrX hx.1.wf) (wf_clrX hy.1.wf)
theorem ag_arr {t u : Rose Node} (ht : PT t) (hu : PT u) (h : agX false t u = true) (h1 : (Ps t).root.kind = 5) (h2 : (Ps u).root.kind = 5) : agX false (Ps t) (Ps u) = true := by
  unfold Ps at *
  cases t0 : (t.root.kind == 0) with
  | true =>
    rw [t0, cond_true] at h1
    rw [cond_true]
    cases u0 : (u.root.kind == 0) with
    | true => exact agX_dynF1 pt_dynF rfl
    | false => rw [u0, cond_false] at h2; exact agX_dynF1 hu h2
  | false =>
    rw [t0, cond_false] at h1
    rw [cond_false]
    cases u0 : (u.root.kind == 0) with
    | true => rw [cond_true, ag_comm ht pt_dynF]; exact agX_dynF1 ht h1
    | false => exact h
theorem okV_relab : ∀ (x : Rose VNode) (d : Nat), okV (relabT x) d = okV x d
  | mk n ks, d => by
    rw [relabT, okV, okV]
    rfl
theorem wf_relab : ∀ {x : Rose VNode}, wf arV x → wf arV (relabT x)
  | mk n ks, h => h
theorem okV_uses {x : Rose VNode} {d : Nat} (h : okV x d = true) : usesB x.root = true := by
  obtain ⟨n, ks⟩ := x
  rw [okV] at h
  simp only [Bool.and_eq_true] at h
  exact h.2.1
theorem okV_deep {x : Rose VNode} {d : Nat} (h : okV x d = true) : d ≤ 100 := by
  obtain ⟨n, ks⟩ := x
  rw [okV] at h
  simp only [Bool.and_eq_true, decide_eq_true_eq] at h
  exact h.1
theorem uses_wrap {n : VNode} (h : usesB n = true) (h7 : n.kind = 7) : Aw n = true := by
  unfold usesB at h
  rw [h7] at h
  simp only [show ((7 : Int) == 0) = false from rfl, show ((7 : Int) == 1) = false from rfl, show ((7 : Int) == 2) = false from rfl, show ((7 : Int) == 3) = false from rfl, show ((7 : Int) == 4) = false from rfl, show ((7 : Int) == 5) = false from rfl,
    show ((7 : Int) == 6) = false from rfl, show ((7 : Int) == 7) = true from rfl, cond_true, cond_false, Bool.and_eq_true] at h
  exact h.2.2.2
theorem wrap_arrow {n : VNode} (h : Aw n = true) : Mh n.t = true ∧ Mh n.u = true := by
  unfold Aw at h
  simp only [Bool.and_eq_true] at h
  exact ⟨h.1, h.2.1⟩
theorem fun_kind {n : VNode} (h : H4 n = true) : n.kind = 6 ∨ n.kind = 7 := by
  unfold H4 at h
  simpa using h
theorem tree_nds {t : Rose Node} (h : PT t) : K1 ar (nds t) 0 = t := tree_of_rt h.1
theorem wrapT_ok {lab : Int} {x : Rose VNode} {t u : Rose Node} {d : Nat} (hl : 0 ≤ lab) (hw : wf arV x) (hx : okV x d = true) (hf : H4 x.root = true) (ht : PT t) (hu : PT u) (h1 : t.root.kind = 5) (h2 : u.root.kind = 5) (ha : agX false t u = true)
    (hs : Gp (nds t) (nds u) = false) : wf arV (Av lab x t u) ∧ okV (Av lab x t u) d = true := by
  have nt := pt_norm ht
  have nu := pt_norm hu
  have hwr : Aw ⟨7, x.root.label, [], lab, 0, (nds t).map Hx, (nds u).map Hx⟩ = true := by
    unfold Aw
    simp only
    rw [← nds_normX, ← nds_normX, arrow_pt nt (by rw [Ln, C4]; exact h1), arrow_pt nu (by rw [Ln, C4]; exact h2), tree_nds nt, tree_nds nu, ag_norm, ha, nds_normX, nds_normX, same3_normL, same3_normR, hs]
    rfl
  have hlb : leB 0 lab = true := by rw [Ig]; exact hl
  have hu7 : usesB ⟨7, x.root.label, [], lab, 0, (nds t).map Hx, (nds u).map Hx⟩ = true := by
    unfold usesB
    simp only [show ((7 : Int) == 0) = false from rfl, show ((7 : Int) == 1) = false from rfl, show ((7 : Int) == 2) = false from rfl, show ((7 : Int) == 3) = false from rfl, show ((7 : Int) == 4) = false from rfl, show ((7 : Int) == 5) = false from rfl,
      show ((7 : Int) == 6) = false from rfl, show ((7 : Int) == 7) = true from rfl, cond_true, cond_false, hwr, hlb]
    rfl
  refine ⟨⟨rfl, wf_relab hw, trivial⟩, ?_⟩
  unfold Av
  rw [okV, hu7, okVs, okVs, okV_relab]
  have hd := okV_deep hx
  rw [show decide (d ≤ 100) = true by rw [decide_eq_true_eq]; exact hd]
  have hmo : Lt ⟨7, x.root.label, [], lab, 0, (nds t).map Hx, (nds u).map Hx⟩ = 0 := rfl
  rw [hmo, Nat.add_zero, hx]
  have hk : Eq ⟨7, x.root.label, [], lab, 0, (nds t).map Hx, (nds u).map Hx⟩ [relabT x] = true := by
    unfold Eq
    rw [G7]
    intro j hj
    have : j = 0 := by simpa using hj
    subst this
    rw [Ok (by simp)]
    obtain ⟨n, ks⟩ := x
    simp only [List.getElem_cons_zero, relabT, T1, relab, kidB, wrapK]
    rcases fun_kind hf with h | h <;> simp only [T1] at h <;> rw [h] <;> rfl
  rw [hk]
  rfl
theorem fits_fun {x : Rose VNode} {t : Rose Node} {d : Nat} (ht : PT t) (hx : okV x d = true) (hf : H4 x.root = true) (h : fitsR x t = true) : (Ps t).root.kind = 5 ∧ (x.root.kind = 7 → Gp x.root.u (nds (Ps t)) = true) := by
  have hus := okV_uses hx
  obtain ⟨n, ks⟩ := x
  simp only [T1] at *
  rw [fitsR] at h
  unfold Ps
  rcases fun_kind hf with h6 | h7
  · rw [show (n.kind == 6) = true by simp [h6], cond_true] at h
    cases t0 : (t.root.kind == 0) with
    | true => exact ⟨rfl, fun h7 => by omega⟩
    | false => rw [t0, Bool.false_or, beq_iff_eq] at h; exact ⟨h, fun h7 => by omega⟩
  · have hu := (wrap_arrow (uses_wrap hus h7)).2
    rw [show (n.kind == 6) = false by simp [h7], cond_false, show (n.kind == 7) = true by simp [h7], cond_true, Bool.or_eq_true, Bool.and_eq_true] at h
    obtain ⟨y, hy, hyr⟩ := Bi (Be.1 hu).1
    rw [hy] at hu h
    have h5 := root_arrow hu
    cases t0 : (t.root.kind == 0) with
    | true =>
      rcases h with h | h
      · have := A4 h
        rw [beq_iff_eq] at t0
        omega
      · exact ⟨rfl, fun _ => by rw [hy]; exact h.2⟩
    | false =>
      rcases h with h | h
      · have := A4 h
        exact ⟨by rw [cond_false, ← this]; exact h5, fun _ => by rw [hy]; exact h⟩
      · rw [t0] at h; cases h.1
theorem fun_fits {lab : Int} {x y : Rose VNode} {t u : Rose Node} {d : Nat} (hl : 0 ≤ lab) (hw : wf arV x) (hx : okV x d = true) (hf : H4 x.root = true) (ht : PT t) (hu : PT u) (ha : agX false t u = true) (h : fitsR x t = true) (hc : funR lab x t u = some y) :
    fitsR y u = true ∧ wf arV y ∧ okV y d = true ∧ y.root.label = x.root.label := by
  obtain ⟨f1, f2⟩ := fits_fun ht hx hf h
  unfold funR at hc
  cases c1 : ((Ps u).root.kind == 5) with
  | false => rw [c1, cond_false] at hc; cases hc
  | true =>
    rw [c1, cond_true] at hc
    rw [beq_iff_eq] at c1
    have hfu : ∀ {n : VNode} {ks : List (Rose VNode)}, n.kind = 7 → Gp n.u (nds (Ps u)) = true → fitsR (mk n ks) u = true := by
      intro n ks h7 hs
      rw [fitsR, show (n.kind == 6) = false by simp [h7], cond_false, show (n.kind == 7) = true by simp [h7], cond_true]
      unfold Ps at hs
      cases u0 : (u.root.kind == 0) with
      | true => rw [u0, cond_true, Er] at hs; rw [hs, Bool.true_and, Bool.or_true]
      | false => rw [u0, cond_false] at hs; rw [hs, Bool.true_or]
    cases c2 : Gp (nds (Ps t)) (nds (Ps u)) with
    | true =>
      rw [c2, cond_true] at hc
      injection hc with hc
      subst hc
      refine ⟨?_, hw, hx, rfl⟩
      obtain ⟨n, ks⟩ := x
      simp only [T1] at *
      rcases fun_kind hf with h6 | h7
      · rw [fitsR, show (n.kind == 6) = true by simp [h6], cond_true]
        unfold Ps at c1
        cases u0 : (u.root.kind == 0) with
        | true => rfl
        | false => rw [u0, cond_false] at c1; simp [c1]
      · exact hfu h7 (same3_trans (f2 h7) c2)
    | false =>
      rw [c2, cond_false] at hc
      injection hc with hc
      subst hc
      obtain ⟨g1, g2⟩ := wrapT_ok hl hw hx hf (arrR_pt ht) (arrR_pt hu) f1 c1 (ag_arr ht hu ha f1 c1) c2
      refine ⟨?_, g1, g2, rfl⟩
      unfold Av
      refine hfu rfl ?_
      simp only
      rw [same3_normL]
      exact A3 _
end Go.Am.Ty
set_option linter.unusedSimpArgs false
set_option linter.unusedVariables false
set_option maxHeartbeats 2000000
namespace Go.Am.Ty
open Go.Proofs Go.Rose Go.Rose.Rose
open Enc (enc dec)
theorem notFun {n : VNode} (h : H4 n = false) : (n.kind == 6) = false ∧ (n.kind == 7) = false := by
  unfold H4 at h
  rwa [Bool.or_eq_false_iff] at h
theorem cast_row {lab : Int} {n : VNode} {ks : List (Rose VNode)} {t u : Rose Node} {y : Rose VNode} (hs : Gp (nds t) (nds u) = false) (hf : H4 n = false) (h45 : (n.kind == 4 || n.kind == 5) = true) :
    castR lab (mk n ks) t u = some y ↔ ∃ a b ys, Gk n ks t = some a ∧ Gk n ks u = some b ∧ y = mk n ys ∧ ys.length = ks.length ∧ ∀ j (h : j < ys.length), castR lab (ks.getD j dv) (a.getD j Gu) (b.getD j Gu) = some ys[j] := by
  rw [castR, hs, cond_false, hf, cond_false, h45, cond_true]
  cases ha : Gk n ks t with
  | none => simp
  | some a =>
    cases hb : Gk n ks u with
    | none => simp
    | some b =>
      simp only [Option.map_eq_some_iff, Option.some.injEq]
      constructor
      · rintro ⟨ys, h1, rfl⟩
        obtain ⟨g1, g2⟩ := I8.1 h1
        exact ⟨a, b, ys, rfl, rfl, rfl, g1, g2⟩
      · rintro ⟨a', b', ys, rfl, rfl, rfl, g1, g2⟩
        exact ⟨ys, I8.2 ⟨g1, g2⟩, rfl⟩
theorem Iq {n : VNode} {ks : List (Rose VNode)} {t : Rose Node} (hf : H4 n = false) (h45 : (n.kind == 4 || n.kind == 5) = true) :
    fitsR (mk n ks) t = true ↔ ∃ a, Gk n ks t = some a ∧ ∀ j, j < ks.length → fitsR (ks.getD j dv) (a.getD j Gu) = true := by
  obtain ⟨h6, h7⟩ := notFun hf
  rw [fitsR, h6, cond_false, h7, cond_false, h45, cond_true]
  cases ha : Gk n ks t with
  | none => simp
  | some a =>
    simp only [Option.some.injEq]
    rw [Ex, G7]
    constructor
    · exact fun h => ⟨a, rfl, h⟩
    · rintro ⟨a', rfl, h⟩
      exact h
theorem fits_base {n : VNode} {ks : List (Rose VNode)} {t : Rose Node} (hf : H4 n = false) (h45 : (n.kind == 4 || n.kind == 5) = false) : fitsR (mk n ks) t = (t.root.kind == 0 || N9 n t.root.kind) := by
  obtain ⟨h6, h7⟩ := notFun hf
  rw [fitsR, h6, cond_false, h7, cond_false, h45, cond_false]
theorem Fi {lab : Int} {n : VNode} {ks : List (Rose VNode)} {t u : Rose Node} (hs : Gp (nds t) (nds u) = false) (hf : H4 n = false) (h45 : (n.kind == 4 || n.kind == 5) = false) :
    castR lab (mk n ks) t u = cond (!(u.root.kind == 0) && !N9 n u.root.kind) none (some (mk n ks)) := by
  rw [castR, hs, cond_false, hf, cond_false, h45, cond_false]
theorem cast_same {lab : Int} {x : Rose VNode} {t u : Rose Node} (hs : Gp (nds t) (nds u) = true) : castR lab x t u = some x := by
  obtain ⟨n, ks⟩ := x
  rw [castR, hs, cond_true]
theorem Re {lab : Int} {n : VNode} {ks : List (Rose VNode)} {t u : Rose Node} (hs : Gp (nds t) (nds u) = false) (hf : H4 n = true) : castR lab (mk n ks) t u = funR lab (mk n ks) t u := by
  rw [castR, hs, cond_false, hf, cond_true]
theorem fields_congr {t : Rose Node} : ∀ {ks ys : List (Rose VNode)}, ys.length = ks.length → (∀ j (h : j < ys.length) (h2 : j < ks.length), ys[j].root.label = ks[j].root.label) → Hl t ys = Hl t ks
  | [], ys, h, _ => by rw [List.eq_nil_of_length_eq_zero h]
  | k :: ks, [], h, _ => by simp at h
  | k :: ks, y :: ys, h, hl => by
    have h0 := hl 0 (by simp) (by simp)
    simp only [List.getElem_cons_zero] at h0
    rw [Hl, Hl, h0, fields_congr (ks := ks) (ys := ys) (by simpa using h) (fun j h1 h2 => hl (j + 1) (by simpa using h1) (by simpa using h2))]
theorem parts_congr {n : VNode} {ks ys : List (Rose VNode)} {t : Rose Node} (h : ys.length = ks.length) (hl : ∀ j (h : j < ys.length) (h2 : j < ks.length), ys[j].root.label = ks[j].root.label) : Gk n ys t = Gk n ks t := by
  unfold Gk
  rw [h, fields_congr h hl]
theorem okKids_congr2 {n : VNode} {ks ys : List (Rose VNode)} (h7 : (n.kind == 7) = false) (h : ys.length = ks.length) (hl : ∀ j (h : j < ys.length) (h2 : j < ks.length), ys[j].root.label = ks[j].root.label) : Eq n ys = Eq n ks := by
  unfold Eq
  rw [h, Bool.eq_iff_iff, G7, G7]
  refine forall_congr' fun j => imp_congr_right fun hj => ?_
  have e1 : (Ij ys j).label = (Ij ks j).label := by rw [Ok (by omega), Ok hj]; exact hl j (by omega) hj
  have e2 : (Ij ys (j - 1)).label = (Ij ks (j - 1)).label := by rw [Ok (by omega), Ok (by omega)]; exact hl (j - 1) (by omega) (by omega)
  unfold kidB wrapK
  rw [e1, e2, h7]
  simp
theorem okV_kid {n : VNode} {ks : List (Rose VNode)} {d : Nat} (h : okV (mk n ks) d = true) {j : Nat} (hj : j < ks.length) : okV ks[j] (d + Lt n) = true := by
  rw [okV] at h
  simp only [Bool.and_eq_true] at h
  exact okVs_iff.1 h.2.2.2 j hj
theorem pt_getD {l : List (Rose Node)} (h : ∀ y ∈ l, PT y) (j : Nat) : PT (l.getD j Gu) := by
  by_cases hj : j < l.length
  · rw [List.getD_eq_getElem?_getD, List.getElem?_eq_getElem hj]
    exact h _ (List.getElem_mem hj)
  · rw [List.getD_eq_getElem?_getD, List.getElem?_eq_none (by omega)]
    exact pt_dyn
theorem M4 {α : Type} {l : List α} {j : Nat} {d : α} (h : j < l.length) : l.getD j d = l[j] := by simp [h]
theorem kid_lenR {n : VNode} {ks : List (Rose VNode)} {j : Nat} (h : j < ks.length) : (nds ks[j]).length < (nds (mk n ks)).length := kid_lenV (x := mk n ks) h
theorem cast_fits {lab : Int} (hl : 0 ≤ lab) : ∀ (N : Nat) {x y : Rose VNode} {t u : Rose Node} {d : Nat}, (nds x).length ≤ N → wf arV x → okV x d = true → PT t → PT u → agX false t u = true → fitsR x t = true → castR lab x t u = some y →
    fitsR y u = true ∧ wf arV y ∧ okV y d = true ∧ y.root.label = x.root.label
  | 0, x, y, t, u, d, hN, _, _, _, _, _, _, _ => by have := N8 x; omega
  | N + 1, mk n ks, y, t, u, d, hN, hw, hx, ht, hu, ha, hfit, hc => by
    cases hs : Gp (nds t) (nds u) with
    | true =>
      rw [cast_same hs] at hc
      injection hc with hc
      subst hc
      exact ⟨by rw [← fits_same ht.1.wf hu.1.wf hs]; exact hfit, hw, hx, rfl⟩
    | false =>
      cases hf : H4 n with
      | true =>
        rw [Re hs hf] at hc
        exact fun_fits hl hw hx hf ht hu ha hfit hc
      | false =>
        cases h45 : (n.kind == 4 || n.kind == 5) with
        | false =>
          rw [Fi hs hf h45] at hc
          cases hb : (!(u.root.kind == 0) && !N9 n u.root.kind) with
          | true => rw [hb, cond_true] at hc; cases hc
          | false =>
            rw [hb, cond_false] at hc
            injection hc with hc
            subst hc
            refine ⟨?_, hw, hx, rfl⟩
            rw [fits_base hf h45]
            cases u0 : (u.root.kind == 0) with
            | true => rfl
            | false => rw [u0] at hb; simpa using hb
        | true =>
          obtain ⟨a, b, ys, hpa, hpb, rfl, hyl, hyc⟩ := (cast_row hs hf h45).1 hc
          obtain ⟨a', hpa', hfk⟩ := (Iq hf h45).1 hfit
          rw [hpa] at hpa'
          injection hpa' with hpa'
          subst hpa'
          have hk5 : n.kind = 5 → ks.length = 1 := fun h => kid1 hw h
          have hag := parts_ag ht hu hk5 ha hpa hpb
          have hpt := pt_parts ht hpa
          have hpu := pt_parts hu hpb
          have hmo : Lt n = 1 := by unfold Lt; rw [(notFun hf).2]; rfl
          have key : ∀ j (h : j < ys.length) (h2 : j < ks.length), fitsR ys[j] (b.getD j Gu) = true ∧ wf arV ys[j] ∧ okV ys[j] (d + Lt n) = true ∧ ys[j].root.label = ks[j].root.label := by
            intro j h h2
            have h3 := hyc j h
            have h4 := hfk j h2
            rw [M4 h2] at h3 h4
            exact cast_fits hl N (by have := kid_lenR (n := n) h2; omega) (Oc hw.2 _ (List.getElem_mem h2)) (okV_kid hx h2) (pt_getD hpt j) (pt_getD hpu j) (hag j h2) h4 h3
          have hlab : ∀ j (h : j < ys.length) (h2 : j < ks.length), ys[j].root.label = ks[j].root.label := fun j h h2 => (key j h h2).2.2.2
          refine ⟨?_, ?_, ?_, rfl⟩
          · rw [Iq hf h45]
            refine ⟨b, by rw [parts_congr hyl hlab]; exact hpb, fun j hj => ?_⟩
            rw [M4 hj]
            exact (key j hj (by omega)).1
          · refine ⟨by rw [hyl]; exact hw.1, ?_⟩
            have : ∀ (zs : List (Rose VNode)), (∀ z ∈ zs, wf arV z) → wfs arV zs := by
              intro zs
              induction zs with
              | nil => exact fun _ => trivial
              | cons z zs ih => exact fun h => ⟨h z (by simp), ih fun w hw => h w (by simp [hw])⟩
            refine this ys fun z hz => ?_
            obtain ⟨j, hj, rfl⟩ := List.getElem_of_mem hz
            exact (key j hj (by omega)).2.1
          · rw [okV] at hx ⊢
            simp only [Bool.and_eq_true] at hx ⊢
            refine ⟨hx.1, hx.2.1, by rw [okKids_congr2 (notFun hf).2 hyl hlab]; exact hx.2.2.1, okVs_iff.2 fun j hj => (key j hj (by omega)).2.2.1⟩
theorem same_dyn {t : Rose Node} (h0 : t.root.kind = 0) (hw : wf ar t) (hn : t.root.name = []) : Gp (nds Gu) (nds t) = true := by
  obtain ⟨n, ks⟩ := t
  simp only [T1] at *
  have : ks = [] := by
    have := hw.1
    rw [Ia h0] at this
    exact List.eq_nil_of_length_eq_zero this
  subst this
  unfold Gp
  rw [nds_dynT, Ho, ndss]
  simp only [List.map_cons, List.map_nil]
  unfold Hx
  obtain ⟨k, s, m⟩ := n
  simp only at h0 hn
  subst h0
  subst hn
  rfl
end Go.Am.Ty
set_option linter.unusedSimpArgs false
set_option linter.unusedVariables false
set_option maxHeartbeats 2000000
namespace Go.Am.Ty
open Go.Proofs Go.Rose Go.Rose.Rose
open Enc (enc dec)
def Le (ks : List (Rose VNode)) : List (List UInt8) := ks.map fun k => k.root.label
theorem Bv {ks : List (Rose VNode)} : (Le ks).length = ks.length := by unfold Le; simp
def baseK (n : VNode) : Int := cond (n.kind == 0) 1 (cond (n.kind == 1) 2 (cond (n.kind == 2) 3 (cond (n.kind == 3) 4 0)))
def baseOk (n : VNode) : Bool := n.kind == 0 || (n.kind == 1 || (n.kind == 2 || n.kind == 3))
theorem base_is (n : VNode) (k : Int) : (baseOk n && baseK n == k) = N9 n k := by
  unfold baseOk baseK N9
  cases n.kind == 0 <;> cases n.kind == 1 <;> cases n.kind == 2 <;> cases n.kind == 3 <;> simp [Bool.beq_comm]
def tagP (n : VNode) (k : Rose Node) : Bool := n.kind == 5 && n.name == k.root.name
mutual
def fits9 : Rose VNode → Rose Node → Bool
  | mk n ks, t => cond (t.root.kind == 0) (cond (n.kind == 7) (Gp n.u Fx) (fits9s ks (List.replicate ks.length (mk t.root []))))
      (cond (t.root.kind == 5) (n.kind == 6 || (n.kind == 7 && Gp n.u (nds t)))
        (cond (t.root.kind == 6) ((n.kind == 4 && Le ks == N3 t.kids) && fits9s ks (t.kids.map M2))
          (cond (t.root.kind == 7) (match t.kids.findIdx? (tagP n) with
            | none => false
            | some j => fits9s ks [M2 (t.kids.getD j (mk n0 []))]) (baseOk n && baseK n == t.root.kind))))
def fits9s : List (Rose VNode) → List (Rose Node) → Bool
  | [], _ => true
  | k :: ks, l => fits9 k (l.headD Gu) && fits9s ks l.tail
end
theorem Ir : ∀ {ks : List (Rose VNode)} {l : List (Rose Node)}, fits9s ks l = (List.range ks.length).all fun j => fits9 (ks.getD j dv) (l.getD j Gu)
  | [], l => rfl
  | k :: ks, l => by
    have hd : l.headD Gu = l.getD 0 Gu := by cases l <;> rfl
    have ht : ∀ j, l.tail.getD j Gu = l.getD (j + 1) Gu := fun j => by cases l <;> rfl
    rw [fits9s, Ir, List.length_cons, List.range_succ_eq_map, List.all_cons, List.all_map, hd]
    simp only [ht]
    rfl
def Ro (l : List (List UInt8)) : Prop := ∀ i j, i < j → j < l.length → Op.bytesLess (l.getD i []) (l.getD j []) = true
theorem less_trans {a b c : List UInt8} (h1 : Op.bytesLess a b = true) (h2 : Op.bytesLess b c = true) : Op.bytesLess a c = true := by
  rw [bytesLess_eq, decide_eq_true_eq] at *
  exact List.lt_trans h1 h2
theorem Oh (a : List UInt8) : Op.bytesLess a a = false := by
  rw [bytesLess_eq, decide_eq_false_iff_not]
  exact List.lt_irrefl a
theorem rising_of {l : List (List UInt8)} (h : ∀ j, 0 < j → j < l.length → Op.bytesLess (l.getD (j - 1) []) (l.getD j []) = true) : Ro l := by
  intro i j
  induction j with
  | zero => intro h; omega
  | succ j ih =>
    intro hij hj
    have h1 := h (j + 1) (by omega) hj
    rw [Nat.add_sub_cancel] at h1
    by_cases e : i = j
    · subst e; exact h1
    · exact less_trans (ih (by omega) (by omega)) h1
theorem rising_inj {l : List (List UInt8)} (h : Ro l) {i j : Nat} (hi : i < l.length) (hj : j < l.length) (e : l.getD i [] = l.getD j []) : i = j := by
  rcases Nat.lt_trichotomy i j with h1 | h1 | h1
  · have := h i j h1 hj
    rw [e, Oh] at this
    cases this
  · exact h1
  · have := h j i h1 hi
    rw [e, Oh] at this
    cases this
theorem rising_lt {l : List (List UInt8)} (h : Ro l) {i j : Nat} (hi : i < l.length) (hj : j < l.length) (hl : Op.bytesLess (l.getD i []) (l.getD j []) = true) : i < j := by
  rcases Nat.lt_trichotomy i j with h1 | h1 | h1
  · exact h1
  · subst h1; rw [Oh] at hl; cases hl
  · have := less_trans (h j i h1 hi) hl
    rw [Oh] at this
    cases this
theorem rising_same {a b : List (List UInt8)} (ha : Ro a) (hb : Ro b) (hl : a.length = b.length) (h : ∀ i, i < a.length → ∃ j, j < b.length ∧ b.getD j [] = a.getD i []) : a = b := by
  have key : ∀ i, i < a.length → ∀ j, j < b.length → b.getD j [] = a.getD i [] → i ≤ j := by
    intro i
    induction i with
    | zero => intro _ j _ _; omega
    | succ i ih =>
      intro hi j hj e
      obtain ⟨k, hk, e2⟩ := h i (by omega)
      have h1 := ih (by omega) k hk e2
      have h2 := ha i (i + 1) (by omega) hi
      rw [← e, ← e2] at h2
      have := rising_lt hb hk hj h2
      omega
  have key2 : ∀ d i, i + d + 1 = a.length → ∀ j, j < b.length → b.getD j [] = a.getD i [] → j ≤ i := by
    intro d
    induction d with
    | zero => intro i hi j hj _; omega
    | succ d ih =>
      intro i hi j hj e
      obtain ⟨k, hk, e2⟩ := h (i + 1) (by omega)
      have h1 := ih (i + 1) (by omega) k hk e2
      have h2 := ha i (i + 1) (by omega) (by omega)
      rw [← e, ← e2] at h2
      have := rising_lt hb hj hk h2
      omega
  refine List.ext_getElem hl fun i h1 h2 => ?_
  obtain ⟨j, hj, e⟩ := h i h1
  have h3 := key i h1 j hj e
  have h4 := key2 (a.length - i - 1) i (by omega) j hj e
  have : j = i := by omega
  subst this
  rw [M4 hj, M4 h1] at e
  exact e.symm
theorem rising_kids {n : VNode} {ks : List (Rose VNode)} (h : Eq n ks = true) (h4 : n.kind = 4) : Ro (Le ks) := by
  unfold Eq at h
  rw [G7] at h
  refine rising_of fun j h0 hj => ?_
  rw [Bv] at hj
  have := h j hj
  rw [Bool.and_eq_true] at this
  have h2 := this.1
  unfold kidB at h2
  rw [show (n.kind == 4) = true by simp [h4], cond_true, show (j == 0) = false by rw [beq_eq_false_iff_ne]; omega, Bool.false_or, Bool.and_eq_true, Ok hj, Ok (show j - 1 < ks.length by omega)] at h2
  unfold Le
  simp only [List.getD_eq_getElem?_getD, List.getElem?_map, List.getElem?_eq_getElem hj, List.getElem?_eq_getElem (show j - 1 < ks.length by omega), Option.map_some, Option.getD_some]
  exact h2.2
theorem rising_type {t : Rose Node} (h : PT t) (hr : t.root.kind = 6 ∨ t.root.kind = 7) : Ro (N3 t.kids) := by
  have hz := h.1.lab
  have hp := P9.1 h.2
  obtain ⟨n, ks⟩ := t
  simp only [T1, Rr] at *
  rw [labT, Bool.and_eq_true] at hz
  have hz1 := hz.1
  unfold labZ at hz1
  rw [G7] at hz1
  refine rising_of fun j h0 hj => ?_
  rw [Hd] at hj
  have := hz1 j hj
  unfold labK at this
  have hm : (ks.getD j (mk n0 [])).root ∈ nds (mk n ks) := by
    rw [Ho]
    exact List.mem_cons_of_mem _ (kid_mem hj)
  rw [show ((ks.getD j (mk n0 [])).root.kind == 9) = false from beq_eq_false_iff_ne.2 (hp _ hm).2, cond_false] at this
  have r3 : Il n = true := by unfold Il; rcases hr with hr | hr <;> simp [hr]
  rw [r3, show ltB 0 (j : Int) = true by rw [Pv]; omega] at this
  simp only [Bool.and_eq_true, Bool.not_eq_true', Bool.true_and, Bool.and_eq_false_imp, Bool.not_eq_false'] at this
  have h2 := this.2.2
  unfold N3
  simp only [List.getD_eq_getElem?_getD, List.getElem?_map, List.getElem?_eq_getElem hj, List.getElem?_eq_getElem (show j - 1 < ks.length by omega), Option.map_some, Option.getD_some] at h2 ⊢
  exact h2
theorem findIdx_at {ks : List (Rose Node)} (hr : Ro (N3 ks)) {j : Nat} (hj : j < ks.length) : ks.findIdx? (fun k => k.root.name == ks[j].root.name) = some j := by
  rw [List.findIdx?_eq_some_iff_getElem]
  refine ⟨hj, by simp, fun i hi => ?_⟩
  intro e
  have e2 : ks[i].root.name = ks[j].root.name := by simpa using e
  have := rising_inj hr (i := i) (j := j) (by rw [Hd]; omega) (by rw [Hd]; exact hj) (by unfold N3; simp [hj, show i < ks.length by omega, e2])
  omega
theorem kid_name {ks : List (Rose Node)} {j : Nat} (hj : j < ks.length) : (N3 ks).getD j [] = ks[j].root.name := by unfold N3; simp [hj]
theorem kid_label {ks : List (Rose VNode)} {j : Nat} (hj : j < ks.length) : (Le ks).getD j [] = ks[j].root.label := by unfold Le; simp [hj]
theorem fieldR_at {t : Rose Node} (hr : Ro (N3 t.kids)) {j : Nat} (hj : j < t.kids.length) : Hb t t.kids[j].root.name = some (M2 t.kids[j]) := by
  unfold Hb
  rw [findIdx_at hr hj]
  simp [hj]
theorem fields_all {t : Rose Node} (hr : Ro (N3 t.kids)) {ks : List (Rose VNode)} (h : Le ks = N3 t.kids) : Hl t ks = some (t.kids.map M2) := by
  have hl : ks.length = t.kids.length := by rw [← Bv (ks := ks), h, Hd]
  have : ∀ m, m ≤ ks.length → Hl t (ks.take m) = some ((t.kids.take m).map M2) := by
    intro m
    induction m with
    | zero => intro _; rfl
    | succ m ih =>
      intro hm
      have hn : ks[m].root.label = t.kids[m].root.name := by
        rw [← kid_label (show m < ks.length by omega), h, kid_name (show m < t.kids.length by omega)]
      rw [List.take_succ_eq_append_getElem (show m < ks.length by omega), fieldsR_snoc, ih (by omega), hn, fieldR_at hr (by omega), List.take_succ_eq_append_getElem (show m < t.kids.length by omega), List.map_append]
      rfl
  have h2 := this ks.length (Nat.le_refl _)
  rw [List.take_length, hl, List.take_length] at h2
  exact h2
theorem fields_labs {t : Rose Node} {n : VNode} {ks : List (Rose VNode)} {l : List (Rose Node)} (hr : Ro (N3 t.kids)) (hk : Ro (Le ks)) (hl : ks.length = t.kids.length) (h : Hl t ks = some l) : Le ks = N3 t.kids := by
  refine rising_same hk hr (by rw [Bv, Hd, hl]) fun i hi => ?_
  rw [Bv] at hi
  have h1 := fieldsR_at h i hi (by rw [fieldsR_len h]; exact hi)
  obtain ⟨j, hj, _, h3⟩ := fieldR_some h1
  exact ⟨j, by rw [Hd]; exact hj, by rw [kid_name hj, kid_label hi, h3]⟩
theorem tagP_idx {n : VNode} {ks : List (Rose Node)} (h5 : n.kind = 5) : ks.findIdx? (tagP n) = ks.findIdx? (fun k => k.root.name == n.name) := by
  congr 1
  funext k
  unfold tagP
  rw [show (n.kind == 5) = true by simp [h5], Bool.true_and, Bool.beq_comm]
theorem tagP_none {n : VNode} {ks : List (Rose Node)} (h5 : n.kind ≠ 5) : ks.findIdx? (tagP n) = none := by
  rw [List.findIdx?_eq_none_iff]
  intro k _
  unfold tagP
  rw [show (n.kind == 5) = false by simp [h5], Bool.false_and]
theorem dyn_eta {t : Rose Node} (h : PT t) (h0 : t.root.kind = 0) : Gp (nds Gu) (nds (mk t.root [])) = true ∧ TyT (mk t.root []) ∧ (mk t.root []).root.kind = 0 := by
  have hw : wf ar (mk t.root []) := ⟨by rw [Ia h0]; rfl, trivial⟩
  exact ⟨same_dyn (t := mk t.root []) h0 hw h.1.name, ⟨hw, by rw [Ho, ndss]; simp⟩, h0⟩
theorem pt_dyn1 {t : Rose Node} (h : PT t) (h0 : t.root.kind = 0) : PT (mk t.root []) := by
  have hw : wf ar (mk t.root []) := ⟨by rw [Ia h0]; rfl, trivial⟩
  have hn : ∀ m ∈ nds (mk t.root []), m = t.root := fun m hm => by rw [Ho, ndss, List.mem_singleton] at hm; exact hm
  refine ⟨⟨hw, fun m hm => by rw [hn m hm]; exact h.1.numb _ (Ld t), ?_, rfl, h.1.name, h.1.kind, by rw [Ho, ndss]; simp⟩, ?_⟩
  · rw [depth, depths]; decide
  · rw [P9]
    intro m hm
    rw [hn m hm]
    exact P9.1 h.2 _ (Ld t)
theorem fits9_fits : ∀ (N : Nat) {x : Rose VNode} {t : Rose Node} {d : Nat}, (nds x).length ≤ N → wf arV x → okV x d = true → PT t → fits9 x t = fitsR x t
  | 0, x, t, d, hN, _, _, _ => by have := N8 x; omega
  | N + 1, mk n ks, t, d, hN, hw, hx, ht => by
    have hus := okV_uses hx
    simp only [T1] at hus
    have hkids : ∀ (l : List (Rose Node)), (∀ y ∈ l, PT y) → l.length = ks.length → fits9s ks l = fitsRs ks l := by
      intro l hl hll
      rw [Ir, Ex, Bool.eq_iff_iff, G7, G7]
      refine forall_congr' fun j => imp_congr_right fun hj => ?_
      rw [M4 hj, fits9_fits N (by have := kid_lenR (n := n) hj; omega) (Oc hw.2 _ (List.getElem_mem hj)) (okV_kid hx hj) (pt_getD hl j)]
    have hknum : t.root.kind = 6 → t.root.n = (t.kids.length : Int) := by
      intro h6
      have h1 := (Rh.1 ht.1.wf).1
      have h2 := D1 (ht.1.numb _ (Ld t))
      rw [h1, ← h2]
      unfold Pu
      rw [h6]
      rfl
    rw [fits9, fitsR]
    by_cases t0 : t.root.kind = 0
    · rw [show (t.root.kind == 0) = true by simp [t0], cond_true]
      by_cases n7 : n.kind = 7
      · have hu := (wrap_arrow (uses_wrap hus n7)).2
        rw [show (n.kind == 7) = true by simp [n7], cond_true, show (n.kind == 6) = false by simp [n7], cond_false, cond_true]
        have hno : Gp n.u (nds t) = false := by
          rw [Bool.eq_false_iff]
          intro h
          obtain ⟨y, hy, hyr⟩ := Bi (Be.1 hu).1
          rw [hy] at hu h
          have := A4 h
          have := root_arrow hu
          omega
        rw [hno, Bool.true_and, Bool.false_or]
      · rw [show (n.kind == 7) = false by simp [n7], cond_false]
        have hk0 : n.kind ≠ 4 → n.kind ≠ 5 → ks = [] := by
          intro h4 h5
          have := hw.1
          unfold arV at this
          rw [if_neg h4, if_neg (by omega)] at this
          exact List.eq_nil_of_length_eq_zero this
        by_cases n6 : n.kind = 6
        · rw [hk0 (by omega) (by omega), show (n.kind == 6) = true by simp [n6], cond_true, fits9s, Bool.true_or]
        · rw [show (n.kind == 6) = false by simp [n6], cond_false, cond_false]
          cases h45 : (n.kind == 4 || n.kind == 5) with
          | false =>
            rw [Bool.or_eq_false_iff, beq_eq_false_iff_ne, beq_eq_false_iff_ne] at h45
            rw [hk0 h45.1 h45.2, fits9s, cond_false, Bool.true_or]
          | true =>
            rw [cond_true, hkids _ (fun y hy => by rw [List.eq_of_mem_replicate hy]; exact pt_dyn1 ht t0) (by simp)]
            have hp : Gk n ks t = some (List.replicate ks.length Gu) := by unfold Gk; rw [show (t.root.kind == 0) = true by simp [t0], cond_true]
            rw [hp]
            simp only
            rw [Ex, Ex, Bool.eq_iff_iff, G7, G7]
            refine forall_congr' fun j => imp_congr_right fun hj => ?_
            obtain ⟨d1, d2, d3⟩ := dyn_eta ht t0
            simp only [List.getD_eq_getElem?_getD, List.getElem?_replicate, hj, if_true, Option.getD_some]
            rw [fits_same d2.1 tyT_dyn.1 (by rw [same3_comm]; exact d1)]
    · rw [show (t.root.kind == 0) = false by simp [t0], cond_false]
      simp only [Bool.false_or, Bool.false_and, Bool.or_false]
      by_cases t5 : t.root.kind = 5
      · rw [show (t.root.kind == 5) = true by simp [t5], cond_true]
        have hpn : Gk n ks t = none := by unfold Gk; simp [t5]
        rw [hpn]
        have hbn : N9 n t.root.kind = false := by
          unfold N9
          rw [t5]
          cases n.kind == 0 <;> cases n.kind == 1 <;> cases n.kind == 2 <;> cases n.kind == 3 <;> rfl
        rw [hbn]
        cases n.kind == 6 <;> cases n.kind == 7 <;> cases (n.kind == 4 || n.kind == 5) <;> simp
      · rw [show (t.root.kind == 5) = false by simp [t5], cond_false]
        have h7s : n.kind = 7 → Gp n.u (nds t) = false := by
          intro n7
          have hu := (wrap_arrow (uses_wrap hus n7)).2
          rw [Bool.eq_false_iff]
          intro h
          obtain ⟨y, hy, hyr⟩ := Bi (Be.1 hu).1
          rw [hy] at hu h
          have := A4 h
          have := root_arrow hu
          omega
        by_cases t6 : t.root.kind = 6
        · rw [show (t.root.kind == 6) = true by simp [t6], cond_true]
          have hrt := rising_type ht (.inl t6)
          by_cases n4 : n.kind = 4
          · rw [show (n.kind == 4) = true by simp [n4], show (n.kind == 6) = false by simp [n4], show (n.kind == 7) = false by simp [n4], Bool.true_and, Bool.true_or]
            simp only [cond_false, cond_true]
            have hok : Eq n ks = true := by rw [okV] at hx; simp only [Bool.and_eq_true] at hx; exact hx.2.2.1
            have hrk := rising_kids hok n4
            have hpe : Gk n ks t = cond (t.root.n == (ks.length : Int)) (Hl t ks) none := by
              unfold Gk
              rw [show (t.root.kind == 0) = false by simp [t0], show (t.root.kind == 7) = false by simp [t6], show (t.root.kind == 6) = true by simp [t6], show (n.kind == 4) = true by simp [n4]]
              rfl
            rw [hpe]
            by_cases hl : Le ks = N3 t.kids
            · have hlen : ks.length = t.kids.length := by rw [← Bv (ks := ks), hl, Hd]
              rw [show (t.root.n == (ks.length : Int)) = true by rw [beq_iff_eq, hknum t6, hlen], cond_true, fields_all hrt hl, show (Le ks == N3 t.kids) = true by simp [hl], Bool.true_and]
              simp only
              refine hkids _ (fun y hy => ?_) (by rw [List.length_map, hlen])
              rw [List.mem_map] at hy
              obtain ⟨z, hz, rfl⟩ := hy
              obtain ⟨j, hj, rfl⟩ := List.getElem_of_mem hz
              exact pt_kid ht hj
            · rw [show (Le ks == N3 t.kids) = false by simp [hl], Bool.false_and]
              cases hn : (t.root.n == (ks.length : Int)) with
              | false => rfl
              | true =>
                rw [cond_true]
                cases hf : Hl t ks with
                | none => rfl
                | some l =>
                  have hlen : ks.length = t.kids.length := by
                    rw [beq_iff_eq, hknum t6] at hn
                    omega
                  exact absurd (fields_labs (n := n) hrt hrk hlen hf) hl
          · rw [show (n.kind == 4) = false by simp [n4], Bool.false_and, Bool.false_and]
            have hpn : Gk n ks t = none := by
              unfold Gk
              rw [show (t.root.kind == 0) = false by simp [t0], show (t.root.kind == 7) = false by simp [t6], show (t.root.kind == 6) = true by simp [t6], show (n.kind == 4) = false by simp [n4]]
              rfl
            rw [hpn]
            have hbn : N9 n t.root.kind = false := by
              unfold N9
              rw [t6]
              cases n.kind == 0 <;> cases n.kind == 1 <;> cases n.kind == 2 <;> cases n.kind == 3 <;> rfl
            rw [hbn]
            by_cases n7 : n.kind = 7
            · rw [h7s n7]; simp
            · rw [show (n.kind == 7) = false by simp [n7]]
              cases n.kind == 6 <;> cases (false || n.kind == 5) <;> simp
        · rw [show (t.root.kind == 6) = false by simp [t6], cond_false]
          by_cases t7 : t.root.kind = 7
          · rw [show (t.root.kind == 7) = true by simp [t7], cond_true]
            by_cases n5 : n.kind = 5
            · rw [tagP_idx n5, show (n.kind == 6) = false by simp [n5], show (n.kind == 7) = false by simp [n5], show (n.kind == 4 || n.kind == 5) = true by simp [n5]]
              simp only [cond_false, cond_true]
              have hpe : Gk n ks t = (Hb t n.name).map fun y => [y] := by
                unfold Gk
                rw [show (t.root.kind == 0) = false by simp [t0], show (t.root.kind == 7) = true by simp [t7], show (n.kind == 5) = true by simp [n5]]
                rfl
              rw [hpe]
              unfold Hb
              cases hi : t.kids.findIdx? (fun k => k.root.name == n.name) with
              | none => rfl
              | some j =>
                have hj : j < t.kids.length := (List.findIdx?_eq_some_iff_getElem.1 hi).1
                simp only [Option.map_some]
                refine hkids _ (fun y hy => ?_) (kid1 (x := mk n ks) hw n5).symm
                rw [List.mem_singleton] at hy
                rw [hy, M4 hj]
                exact pt_kid ht hj
            · rw [tagP_none n5]
              have hpn : Gk n ks t = none := by
                unfold Gk
                rw [show (t.root.kind == 0) = false by simp [t0], show (t.root.kind == 7) = true by simp [t7], show (n.kind == 5) = false by simp [n5], show (t.root.kind == 6) = false by simp [t6]]
                rfl
              rw [hpn]
              have hbn : N9 n t.root.kind = false := by
                unfold N9
                rw [t7]
                cases n.kind == 0 <;> cases n.kind == 1 <;> cases n.kind == 2 <;> cases n.kind == 3 <;> rfl
              rw [hbn]
              by_cases n7 : n.kind = 7
              · rw [h7s n7]; simp
              · rw [show (n.kind == 7) = false by simp [n7]]
                cases n.kind == 6 <;> cases (n.kind == 4 || n.kind == 5) <;> simp
          · rw [show (t.root.kind == 7) = false by simp [t7], cond_false, base_is]
            have hpn : Gk n ks t = none := by
              unfold Gk
              rw [show (t.root.kind == 0) = false by simp [t0], show (t.root.kind == 7) = false by simp [t7], show (t.root.kind == 6) = false by simp [t6]]
              rfl
            rw [hpn]
            by_cases n7 : n.kind = 7
            · rw [h7s n7]
              unfold N9
              simp [n7]
            · rw [show (n.kind == 7) = false by simp [n7]]
              by_cases n6 : n.kind = 6
              · unfold N9
                simp [n6]
              · rw [show (n.kind == 6) = false by simp [n6]]
                try simp only [cond_false]
                cases h45 : (n.kind == 4 || n.kind == 5) with
                | false => rfl
                | true =>
                  rw [Bool.or_eq_true, beq_iff_eq, beq_iff_eq] at h45
                  unfold N9
                  rcases h45 with h | h <;> simp [h]
end Go.Am.Ty
set_option linter.unusedSimpArgs false
set_option linter.unusedVariables false
set_option maxHeartbeats 2000000
namespace Go.Am.Ty
open Go.Proofs Go.Rose Go.Rose.Rose
open Enc (enc dec)
def oneV (a b : List VNode) : Bool := decide (a = b)
theorem oneV_refl (a : List VNode) : oneV a a = true := by unfold oneV; simp
theorem oneV_same {a b : List VNode} (h : Lu a b = false) : oneV a b = false := by
  unfold oneV
  rw [decide_eq_false_iff_not]
  intro e
  subst e
  unfold Lu at h
  simp at h
def B9 : Con := Bg (fun (a b : Sl VNode) => InV a.l ∧ InV b.l) (fun a b => oneV a.l b.l)
noncomputable def Ak : Ctx := ⟨tab, lkC [(37, B2), (38, Tu)], 60, lkB [], [], false⟩
theorem Dt : Ak.τ = tab := rfl
theorem F7 : Ak.Γ = lkC [(37, B2), (38, Tu)] := rfl
theorem F6 : Ak.dp = 60 := rfl
theorem F8 : Ak.Δ = lkB [] := rfl
theorem ctx_One19_w : Ak.wr = false := rfl
set_option maxRecDepth 100000 in
theorem good_One19 : Gj Tryz.prog (10, B9) := by
  refine ⟨U7 Tryz.func10 (by kernel_rfl) rfl, ?_⟩
  have K : Ky Tryz.prog Ak := Kd K6 Ki (by
    intro p hp
    simp only [List.mem_cons, List.not_mem_nil, or_false] at hp
    rcases hp with rfl | rfl
    · exact good_Same19
    · exact good_One3) (by simp)
  obtain ⟨c, hc⟩ : ∃ c, Tryz.f10.body = some c := ⟨_, rfl⟩
  refine Ke K Tryz.func10 hc [.tmp 4] rfl 42 rfl (fun cvs hpre => ?_)
  change B9.pre cvs at hpre
  unfold B9 at hpre
  obtain ⟨⟨a⟩, ⟨b⟩, rfl, hIa, hIb⟩ := Gi hpre
  have ⟨ha, hA⟩ : InV a := hIa
  have ⟨hb, hB⟩ : InV b := hIb
  have hIa' : InV a := hIa
  have hIb' : InV b := hIb
  clear hpre
  simp only [Tryz.f10, Option.some.injEq] at hc
  subst hc
  refine Kw 2 (of_decide_eq_true (by kernel_rfl)) ?_
  cases hs : Lu a b with
  | false =>
    have hr := oneV_same hs
    (sym =>
     simp [hs,hr,Uw,Uz,Uy,Ux,szV,Dt,F7,F6,F8,B9.eq_def,Tu.eq_def,B2.eq_def,Zb,Zc,Ze,Zf,Z9,Qc,Qd,Qe,Qf,Qn,Qo,Qp,Qq,Qs,Q1,Q2,Q4,Q8,Jf,Jj,Jk,Jl,Jw,J3,J4,J5,J6,J8,Xb,Xf,Xn,Xo,Xv,X4,X6,X7,Wb,Wc,Wf,Wh,Wi,Wt,Wu,Wv,Ww,Wx,Wy,Wz,W0,W6,W7,Ya,Yb,Yf,Yj,Yy,Y7,Y8,Vb,Vc,Vd,Ve,Vf,Vg,Vj,Vo,Vq,Vt,Vu,V5,Uk,Um,Un,Uo,U8,Ku,Kc,U4,U3,Kb]
     tactic =>
      try simp only [U1] at *
      try simp only [nc2] at *
      try simp (maxSteps := 4000000) only [hs,hr,Uw,Uz,Uy,Ux,szV,U9]
      repeat' (first | with_reducible assumption | with_reducible refine And.intro ?_ ?_ | intro _ | omega | (rw [U0]; omega))
      all_goals first
        | exact hIa'
        | exact hIb'
        | skip)
  | true =>
    have hsn : a.map L9 = b.map L9 := by unfold Lu at hs; rwa [beq_iff_eq] at hs
    have hlen : a.length = b.length := by have := congrArg List.length hsn; simpa using this
    (sym =>
     simp [hs,Uw,Uz,Uy,Ux,szV,Dt,F7,F6,F8,B9.eq_def,Tu.eq_def,B2.eq_def,Zb,Zc,Ze,Zf,Z9,Qc,Qd,Qe,Qf,Qq,Qs,Q1,Q2,Q4,Q8,Jf,Jj,Jl,Jw,J3,J4,J5,J6,J8,Xb,Xf,Xn,Xo,Xv,X3,X4,X6,X7,X8,X9,Wc,Wf,Wh,Wi,Wt,Wu,Wv,Ww,Wx,Wy,Wz,W0,W6,W7,Ya,Yb,Yf,Yj,Yy,Y7,Y8,Vb,Vc,Vd,Ve,Vf,Vg,Vj,Vo,Vp,Vt,Vu,V4,V5,Ul,Um,Un,Uo,U8,Ku,Kc,U4,U3,Kb]
     tactic =>
      try simp only [U1] at *
      try simp only [nc2] at *
      try simp (maxSteps := 4000000) only [hs,Uw,Uz,Uy,Ux,szV,U9]
      repeat' (first | with_reducible assumption | with_reducible refine And.intro ?_ ?_ | intro _ | omega | (rw [U0]; omega))
      refine Km [4, 10, 11, 12, 13, 14, 15, 16, 17, 18, 19, 20, 21, 22, 23, 24, 25, 26, 27, 28, 29, 30, 31, 32, 33, 34, 35, 36, 37, 38, 39, 40, 41] (fun k : Nat => [(5, .d (.int .i64 k))]) (fun k : Nat => []) (fun k : Nat => k ≤ a.length ∧ ∀ j, j < k → (a.getD j v0).t = (b.getD j v0).t ∧ (a.getD j v0).u = (b.getD j v0).u) (fun k : Nat => a.length - k) 0 ?_ ?_ ?_
      · simp
      · ((try simp only [U2, Ka, U6, Kg, upd, Kh, Ko, Gd, Nat.reduceDiv, Nat.reduceMod, Nat.reduceMul, Nat.reduceAdd, Nat.reduceEqDiff, List.set_cons_zero, List.set_cons_succ, if_true, if_false, reduceIte]); (first | refine Wk.of_fl ?_ | skip); simp only [Wk, wkK, Gl, wkT, wk1, AV.kept, keptAll, wkO, lk, U5, and_true, true_and, and_self, Nat.reduceEqDiff, Nat.reduceLeDiff, if_true, if_false, reduceIte, reduceCtorEq, Option.isSome, false_implies]; try simp [Wk, wkK, wkT, wk1, AV.kept, keptAll, wkO, lk, U5])
      rintro k ⟨hk, hno⟩
      rcases Ks k a.length with ⟨hlt, hlb⟩ | ⟨hlt, hlb⟩
      · have hlt2 : k < b.length := by omega
        have q1 := Kf v0 hlt
        have q2 := Kf v0 hlt2
        obtain ⟨s1, s2⟩ := hA _ (Cs (d := v0) hlt)
        obtain ⟨s3, s4⟩ := hB _ (Cs (d := v0) hlt2)
        have hbad : ((a.getD k v0).t ≠ (b.getD k v0).t ∨ (a.getD k v0).u ≠ (b.getD k v0).u) → oneV a b = false := by
          intro h
          unfold oneV
          rw [decide_eq_false_iff_not]
          intro e
          subst e
          rcases h with h | h <;> exact h rfl
        have hgood : (a.getD k v0).t = (b.getD k v0).t → (a.getD k v0).u = (b.getD k v0).u → ∀ j, j < k + 1 → (a.getD j v0).t = (b.getD j v0).t ∧ (a.getD j v0).u = (b.getD j v0).u := by
          intro h1 h2 j hj
          by_cases hjk : j = k
          · subst hjk; exact ⟨h1, h2⟩
          · exact hno j (by omega)
        obtain ⟨x, hx⟩ : ∃ x, a.getD k v0 = x := ⟨_, rfl⟩
        obtain ⟨y, hy⟩ : ∃ y, b.getD k v0 = y := ⟨_, rfl⟩
        rw [hx] at q1 s1 s2 hbad hgood
        rw [hy] at q2 s3 s4 hbad hgood
        cases e1 : (x.t == y.t) with
        | false =>
          have hr := hbad (.inl (by simpa using e1))
          (sym =>
           simp [hlb,q1,q2,e1,hr,Uw,Uz,Uy,Ux,szV,Uu,Us,Uv,Ur,szN,Ut,Dt,F7,F6,F8,ctx_One19_w,Tu.eq_def,B2.eq_def,Zb,Zc,Zd,Ze,Zf,Zg,Zh,Zi,Zj,Zk,Zl,Zm,Zo,Zp,Zq,Zs,Zt,Zv,Zx,Zy,Z6,Z9,Qb,Qc,Qd,Qe,Qf,Qn,Qo,Qp,Qq,Qr,Qs,Q1,Q2,Q4,Q5,Q6,Q8,Jf,Jj,Jk,Jl,Jy,Jz,J0,J5,J6,J7,J8,J9,Xa,Xb,Xc,Xf,Xv,X3,X4,X5,X6,X7,X8,Wb,Wc,Wd,We,Wf,Wg,Wh,Wi,Wj,Wp,Wq,Wr,Ws,Wt,Wu,Wv,Ww,Wx,Wz,W0,W4,W5,W8,W9,Ya,Yb,Yd,Ye,Yf,Yi,Yj,Ym,Yv,Yw,Yy,Y0,Y1,Y7,Y8,Y9,Va,Vc,Vk,Vl,Vq,Vr,Vt,Vu,V5,Uk,Ul,Um,Un,Uo,Up,Uq,U8,Ku,Kc,U4,U3,Kb]
           tactic =>
            try simp only [U1] at *
            try simp only [nc2] at *
            try simp (maxSteps := 4000000) only [hlb,q1,q2,e1,hr,Uw,Uz,Uy,Ux,szV,Uu,Us,Uv,Ur,szN,Ut,U9]
            repeat' (first | with_reducible assumption | with_reducible refine And.intro ?_ ?_ | intro _ | omega | (rw [U0]; omega))
            all_goals first
              | (with_reducible refine Kl ?_; kernel_rfl)
              | omega
              | skip)
        | true =>
          cases e2 : (x.u == y.u) with
          | false =>
            have hr := hbad (.inr (by simpa using e2))
            (sym =>
             simp [hlb,q1,q2,e1,e2,hr,Uw,Uz,Uy,Ux,szV,Uu,Us,Uv,Ur,szN,Ut,Dt,F7,F6,F8,ctx_One19_w,Tu.eq_def,B2.eq_def,Zb,Zc,Zd,Ze,Zf,Zg,Zh,Zi,Zj,Zk,Zl,Zm,Zo,Zp,Zq,Zs,Zt,Zv,Zx,Zy,Z6,Z9,Qb,Qc,Qd,Qe,Qf,Qn,Qo,Qp,Qq,Qr,Qs,Q1,Q2,Q4,Q5,Q6,Q8,Jf,Jj,Jk,Jl,Jy,Jz,J0,J5,J6,J7,J8,J9,Xa,Xb,Xc,Xf,Xv,X3,X4,X5,X6,X7,X8,Wb,Wc,Wd,We,Wf,Wg,Wh,Wi,Wj,Wp,Wq,Wr,Ws,Wt,Wu,Wv,Ww,Wx,Wz,W0,W4,W5,W8,W9,Ya,Yb,Yd,Ye,Yf,Yi,Yj,Ym,Yv,Yw,Yy,Y0,Y1,Y7,Y8,Y9,Va,Vc,Vk,Vl,Vp,Vq,Vr,Vt,Vu,V5,Uk,Ul,Um,Un,Uo,Up,Uq,U8,Ku,Kc,U4,U3,Kb]
             tactic =>
              try simp only [U1] at *
              try simp only [nc2] at *
              try simp (maxSteps := 4000000) only [hlb,q1,q2,e1,e2,hr,Uw,Uz,Uy,Ux,szV,Uu,Us,Uv,Ur,szN,Ut,U9]
              repeat' (first | with_reducible assumption | with_reducible refine And.intro ?_ ?_ | intro _ | omega | (rw [U0]; omega))
              all_goals first
                | (with_reducible refine Kl ?_; kernel_rfl)
                | omega
                | skip)
          | true =>
            have hst := hgood (by simpa using e1) (by simpa using e2)
            (sym =>
             simp [hlb,q1,q2,e1,e2,Uw,Uz,Uy,Ux,szV,Uu,Us,Uv,Ur,szN,Ut,Dt,F7,F8,ctx_One19_w,Tu.eq_def,B2.eq_def,Zb,Zc,Zd,Ze,Zf,Zg,Zh,Zi,Zj,Zk,Zl,Zm,Zo,Zp,Zq,Zs,Zt,Zv,Zx,Zy,Z6,Z9,Qb,Qc,Qd,Qe,Qf,Qq,Qr,Qs,Q1,Q2,Q4,Q5,Q6,Q8,Jf,Jj,Jl,Jy,Jz,J0,J5,J6,J7,J8,J9,Xa,Xb,Xc,Xf,Xv,X3,X4,X5,X6,X7,X8,Wc,Wd,We,Wf,Wg,Wh,Wi,Wj,Wp,Wq,Wr,Ws,Wt,Wu,Wv,Ww,Wx,Wz,W0,W4,W5,W8,W9,Ya,Yb,Yd,Ye,Yf,Yi,Yj,Ym,Yv,Yw,Yy,Y0,Y1,Y7,Y8,Y9,Va,Vc,Vk,Vl,Vp,Vr,Vt,Vu,V4,V5,Uk,Ul,Um,Un,Uo,Up,Uq,U8,Ku,Kc,U4,U3,Kb]
             tactic =>
              try simp only [U1] at *
              try simp only [nc2] at *
              try simp (maxSteps := 4000000) only [hlb,q1,q2,e1,e2,Uw,Uz,Uy,Ux,szV,Uu,Us,Uv,Ur,szN,Ut,U9]
              repeat' (first | with_reducible assumption | with_reducible refine And.intro ?_ ?_ | intro _ | omega | (rw [U0]; omega))
              all_goals first
                | (with_reducible refine Kl ?_; kernel_rfl)
                | omega
                | exact ⟨k + 1, by ((try simp only [U2, Ka, U6, Kg, upd, Kh, Ko, Gd, Nat.reduceDiv, Nat.reduceMod, Nat.reduceMul, Nat.reduceAdd, Nat.reduceEqDiff, List.set_cons_zero, List.set_cons_succ, if_true, if_false, reduceIte]); (first | refine Wk.of_fl ?_ | skip); simp only [Wk, wkK, Gl, wkT, wk1, AV.kept, keptAll, wkO, lk, U5, and_true, true_and, and_self, Nat.reduceEqDiff, Nat.reduceLeDiff, if_true, if_false, reduceIte, reduceCtorEq, Option.isSome, false_implies]; try simp [Wk, wkK, wkT, wk1, AV.kept, keptAll, wkO, lk, U5]), by omega, hst, by omega⟩
                | skip)
      · have hr : oneV a b = true := by
          unfold oneV
          rw [decide_eq_true_eq]
          refine List.ext_getElem hlen fun j h1 h2 => ?_
          obtain ⟨g1, g2⟩ := hno j (by omega)
          have g3 : L9 a[j] = L9 b[j] := by
            have := congrArg (fun l => l[j]?) hsn
            simpa [h1, h2] using this
          rw [M4 h1, M4 h2] at g1 g2
          revert g1 g2 g3
          generalize a[j] = p
          generalize b[j] = q
          intro g1 g2 g3
          unfold L9 at g3
          obtain ⟨p1, p2, p3, p4, p5, p6, p7⟩ := p
          obtain ⟨q1, q2, q3, q4, q5, q6, q7⟩ := q
          simp only [VNode.mk.injEq] at *
          exact ⟨g3.1, g3.2.1, g3.2.2.1, g3.2.2.2.1, g3.2.2.2.2.1, g1, g2⟩
        (sym =>
         simp [hlb,hr,Uw,Uz,Uy,Ux,szV,Dt,F6,Zb,Zc,Ze,Zf,Zg,Zo,Z6,Qb,Qd,Qn,Qo,Qp,Qq,Qs,Q1,Q2,Q4,Q8,Jk,Jy,Jz,J0,J5,J6,J8,Xa,Xb,Xc,Xf,X4,X6,X7,Wa,Wb,Wc,Wf,Wh,Wi,Wj,Wt,Wu,Wv,Ww,Ya,Yb,Yd,Ye,Yi,Y0,Y1,Y7,Y8,Y9,Va,Vt,Vu,V5,Ul,Um,Un,Uo,Up,U8,Ku,Kc,U4,U3,Kb]))
theorem given_of {v : List VNode} {l : List (Sl Node)} (h : givenB v l = true) : v.length ≤ 40 ∧ fewV v 40 = true ∧ (∃ x, v = nds x ∧ VT x) ∧ ∀ t ∈ l, Dz t.l 30 = true := by
  unfold givenB at h
  rw [Bool.and_eq_true, Bool.and_eq_true, List.all_eq_true] at h
  exact ⟨(few_of h.2.1).1, h.2.1, right19_iff.1 h.2.2, h.1⟩
theorem named_parts {n : VNode} {ks : List (Rose VNode)} {t : Rose Node} {l : List (Rose Node)} (ht : Cz (nds t)) (h : Gk n ks t = some l) : ∀ y ∈ l, Cz (nds y) := by
  refine partsR_in (P := fun y => Cz (nds y)) h (by intro m hm; rw [nds_dynT, List.mem_singleton] at hm; rw [hm]; simp) fun j hj => ?_
  intro m hm
  rw [Fu] at hm
  have hk := kid_memN hj
  cases hz : nds t.kids[j] with
  | nil => rw [hz] at hm; simp [clr] at hm
  | cons a r =>
    rw [hz] at hm
    rw [clr, List.mem_cons] at hm
    rcases hm with rfl | hm
    · simp
    · exact ht m (hk m (by rw [hz]; simp [hm]))
theorem named_norm {t : List Node} (h : Cz t) : Cz (t.map Hx) := by
  intro m hm
  rw [List.mem_map] at hm
  obtain ⟨n, hn, rfl⟩ := hm
  rw [Rq]
  exact h n hn
theorem good_relab {n : VNode} (h : Rg n) : Rg (relab n) := ⟨h.1, h.2.1, h.2.2.1, by simp [relab]⟩
theorem getD_P {P : Rose Node → Prop} {l : List (Rose Node)} (h0 : P Gu) (h : ∀ y ∈ l, P y) (j : Nat) : P (l.getD j Gu) := by
  by_cases hj : j < l.length
  · rw [M4 hj]; exact h _ (List.getElem_mem hj)
  · rw [List.getD_eq_getElem?_getD, List.getElem?_eq_none (by omega)]; exact h0
theorem named_dyn : Cz (nds Gu) := by intro m hm; rw [nds_dynT, List.mem_singleton] at hm; rw [hm]; simp
theorem cast_good {lab : Int} : ∀ (N : Nat) {x y : Rose VNode} {t u : Rose Node}, (nds x).length ≤ N → (∀ m ∈ nds x, Rg m) → (TyT t ∧ Cz (nds t)) → (TyT u ∧ Cz (nds u)) → castR lab x t u = some y → ∀ m ∈ nds y, Rg m
  | 0, x, y, t, u, hN, _, _, _, _ => by have := N8 x; omega
  | N + 1, mk n ks, y, t, u, hN, hx, ht, hu, hc => by
    cases hs : Gp (nds t) (nds u) with
    | true => rw [cast_same hs] at hc; injection hc with hc; subst hc; exact hx
    | false =>
      cases hf : H4 n with
      | true =>
        rw [Re hs hf] at hc
        unfold funR at hc
        have har : ∀ t : Rose Node, (TyT t ∧ Cz (nds t)) → (nds (Ps t)).length ≤ 1000000 ∧ Cz (nds (Ps t)) := by
          intro t ht
          unfold Ps
          cases t.root.kind == 0 with
          | true =>
            refine ⟨by rw [cond_true, Er]; decide, ?_⟩
            intro m hm
            have h : m ∈ [(⟨5, [], 0⟩ : Node), ⟨0, [], 0⟩, ⟨0, [], 0⟩] := hm
            have : m = ⟨5, [], 0⟩ ∨ m = ⟨0, [], 0⟩ := by simpa using h
            rcases this with rfl | rfl <;> simp
          | false => exact ⟨ht.1.2, ht.2⟩
        cases c1 : ((Ps u).root.kind == 5) with
        | false => rw [c1, cond_false] at hc; cases hc
        | true =>
          rw [c1, cond_true] at hc
          cases c2 : Gp (nds (Ps t)) (nds (Ps u)) with
          | true => rw [c2, cond_true] at hc; injection hc with hc; subst hc; exact hx
          | false =>
            rw [c2, cond_false] at hc
            injection hc with hc
            subst hc
            intro m hm
            rw [Av, Ho, ndss, ndss, List.append_nil, nds_relabT, Ho, relabL, List.mem_cons, List.mem_cons] at hm
            have hn := hx n (by rw [Ho]; simp)
            rcases hm with rfl | rfl | hm
            · obtain ⟨a1, a2⟩ := har t ht
              obtain ⟨b1, b2⟩ := har u hu
              exact ⟨⟨by rw [List.length_map]; exact a1, named_norm a2⟩, ⟨by rw [List.length_map]; exact b1, named_norm b2⟩, by simp, hn.2.2.2⟩
            · exact good_relab hn
            · exact hx m (by rw [Ho]; simp [hm])
      | false =>
        cases h45 : (n.kind == 4 || n.kind == 5) with
        | false =>
          rw [Fi hs hf h45] at hc
          cases hb : (!(u.root.kind == 0) && !N9 n u.root.kind) with
          | true => rw [hb, cond_true] at hc; cases hc
          | false => rw [hb, cond_false] at hc; injection hc with hc; subst hc; exact hx
        | true =>
          obtain ⟨a, b, ys, hpa, hpb, rfl, hyl, hyc⟩ := (cast_row hs hf h45).1 hc
          intro m hm
          rw [Ho, List.mem_cons] at hm
          rcases hm with rfl | hm
          · exact hx _ (by rw [Ho]; simp)
          · have : ∀ (zs : List (Rose VNode)), m ∈ ndss zs → ∃ j, ∃ hj : j < zs.length, m ∈ nds zs[j] := by
              intro zs
              induction zs with
              | nil => intro h; simp [ndss] at h
              | cons z zs ih =>
                intro h
                rw [ndss, List.mem_append] at h
                rcases h with h | h
                · exact ⟨0, by simp, h⟩
                · obtain ⟨j, hj, hm⟩ := ih h
                  exact ⟨j + 1, by simpa using hj, hm⟩
            obtain ⟨j, hj, hm2⟩ := this ys hm
            have h3 := hyc j hj
            rw [M4 (show j < ks.length by omega)] at h3
            exact cast_good N (by have := kid_lenR (n := n) (show j < ks.length by omega); omega) (fun m hm => hx m (kid_memV (x := mk n ks) (show j < ks.length by omega) m hm))
              ⟨getD_P tyT_dyn (El ht.1 hpa) j, getD_P (P := fun y => Cz (nds y)) named_dyn (named_parts ht.2 hpa) j⟩
              ⟨getD_P tyT_dyn (El hu.1 hpb) j, getD_P (P := fun y => Cz (nds y)) named_dyn (named_parts hu.2 hpb) j⟩ h3 m hm2
theorem cast_right {lab : Int} (hl : 0 ≤ lab) {x y : Rose VNode} {t u : Rose Node} (hx : VT x) (h40 : (nds x).length ≤ 40) (ht : PT t) (hu : PT u) (ha : agX false t u = true) (hf : fitsR x t = true) (hc : castR lab x t u = some y) : VT y ∧ fitsR y u = true := by
  obtain ⟨h1, h2, h3, h4⟩ := cast_fits hl _ (Nat.le_refl _) hx.wf hx.ok ht hu ha hf hc
  have := cast_len hc
  exact ⟨⟨h2, by omega, by rw [h4]; exact hx.name, h3⟩, h1⟩
theorem tree7_pt {t : Rose Node} (h : PT t) : Bh (nds t) := ⟨h.1.len, h.1.numb, t, rfl, h.1.wf⟩
end Go.Am.Ty
set_option linter.unusedSimpArgs false
set_option linter.unusedVariables false
set_option maxHeartbeats 2000000
namespace Go.Am.Ty
open Go.Proofs Go.Rose Go.Rose.Rose
open Enc (enc dec)
theorem in2 {t u : List Node} (ht : In t) (hu : In u) : ∀ s ∈ [(⟨t⟩ : Sl Node), ⟨u⟩], In s.l := by
  intro s hs
  simp only [List.mem_cons, List.not_mem_nil, or_false] at hs
  rcases hs with rfl | rfl
  · exact ht
  · exact hu
theorem optX_some {y : Rose VNode} : Cn (some y) = (⟨nds y⟩, true) := rfl
theorem optX_none : Cn none = (⟨[]⟩, false) := rfl
end Go.Am.Ty
set_option linter.unusedSimpArgs false
set_option linter.unusedVariables false
set_option maxHeartbeats 2000000
namespace Go.Am.Ty
open Go.Proofs Go.Rose Go.Rose.Rose
open Enc (enc dec)
noncomputable def Kk : Con := Hh (fun (t : Sl Node) => Bh t.l) (fun t => kids7 t.l)
noncomputable def Dm : Ctx := ⟨tab, lkC [(42, Mx), (43, B8)], 60, lkB [], [], false⟩
theorem ctx_types19_t : Dm.τ = tab := rfl
theorem ctx_types19_c : Dm.Γ = lkC [(42, Mx), (43, B8)] := rfl
theorem ctx_types19_d : Dm.dp = 60 := rfl
theorem ctx_types19_b : Dm.Δ = lkB [] := rfl
theorem ctx_types19_w : Dm.wr = false := rfl
set_option maxRecDepth 100000 in
theorem D3 : Gj Tryz.prog (20, Kk) := by
  refine ⟨U7 Tryz.func20 (by kernel_rfl) rfl, ?_⟩
  have K : Ky Tryz.prog Dm := Kd K6 Ki (by
    intro p hp
    simp only [List.mem_cons, List.not_mem_nil, or_false] at hp
    rcases hp with rfl | rfl
    · exact good_Kids3
    · exact good_Part3) (by simp)
  obtain ⟨c, hc⟩ : ∃ c, Tryz.f20.body = some c := ⟨_, rfl⟩
  refine Ke K Tryz.func20 hc [.tmp 2, .tmp 3] rfl 40 rfl (fun cvs hpre => ?_)
  change Kk.pre cvs at hpre
  unfold Kk at hpre
  obtain ⟨⟨t⟩, rfl, ht, hN, x, hxt, hx⟩ := con1t_pre hpre
  simp only at ht hN hxt
  have hat : At ar t 0 x := by rw [hxt]; exact Ns hx
  have hT : Tame t := numb_tame hN (by omega)
  have htr : K1 ar t 0 = x := Gq hat
  have hk3 : Cr t 0 = M8 1 x.kids := kids3_at hN hat
  obtain ⟨hks, hkl⟩ := hat.kids
  have hkt : kids7 t = (⟨Na x.kids⟩, ⟨N3 x.kids⟩) := by unfold kids7; rw [htr]
  obtain ⟨ks, hk⟩ : ∃ ks, x.kids = ks := ⟨_, rfl⟩
  rw [hk] at hks hkl hk3 hkt
  replace hks : Ats ar t 1 ks := hks
  have hle := ats_le hks (by have := hat.lt; omega)
  obtain ⟨l, hl⟩ : ∃ l, M8 1 ks = l := ⟨_, rfl⟩
  have hll : l.length = ks.length := by rw [← hl, Sf]
  have hl1 : Cr t 0 = l := by rw [hk3, ← hl]
  have hkn : ks.length ≤ 10000 := by
    have : ks.length ≤ (ndss ks).length := by
      clear hks hkl hle hll hl hk hkt hk3 hl1
      induction ks with
      | nil => simp
      | cons y ys ih => simp only [List.length_cons, ndss, List.length_append]; have := N8 y; omega
    omega
  simp only [Tryz.f20, Option.some.injEq] at hc
  subst hc
  refine Kw 2 (of_decide_eq_true (by kernel_rfl)) ?_
  (sym =>
   simp [Hh.eq_def,hl1,hkt,Uu,Us,Uv,Ur,szN,Ut,ctx_types19_t,ctx_types19_c,ctx_types19_d,ctx_types19_b,Mx.eq_def,B8.eq_def,Kk.eq_def,Zb,Zc,Ze,Zf,Zn,Zo,Zr,Z1,Z9,Qe,Qf,Qq,Qs,Q1,Q2,Q4,Q8,Jb,Jc,Jd,Je,Jf,Jg,Jh,Ji,Jj,Jl,Jw,J3,J4,J5,J6,J8,Xb,Xd,Xf,Xn,Xo,Xv,X4,X6,X8,X9,Wc,Wf,Wh,Wi,Wj,Wn,Wt,Wu,Wv,Ww,Wx,Wy,Wz,W0,W3,W5,W6,W7,Ya,Yb,Y7,Y8,Vb,Vc,Vd,Ve,Vf,Vg,Vh,Vj,Vm,Vo,Vt,Vu,V4,V7,Um,Un,Uo,U8,Kq,U4,Kr,U3,My,H9]
   tactic =>
    try simp only [U1] at *
    try simp only [nc2] at *
    try simp (maxSteps := 4000000) only [Hh.eq_def,hl1,hkt,Uu,Us,Uv,Ur,szN,Ut,U9]
    repeat' (first | with_reducible assumption | with_reducible refine And.intro ?_ ?_ | intro _ | omega | (rw [U0]; omega))
    refine Km [12, 13, 14, 15, 16, 17, 18, 19, 20, 21, 22, 23, 24, 25, 26, 27, 28, 29, 30, 31, 32, 33, 34, 35, 36, 37] (fun j : Nat => [(4, .sl 8 ((Na (ks.take j)).map (enc : Sl Node → D)).length), (5, .sl 9 ((N3 (ks.take j)).map (enc : List UInt8 → D)).length), (7, .d (.int .i64 j))]) (fun j : Nat => [(8, .row 1 ((Na (ks.take j)).map enc) 0), (9, .row 1 ((N3 (ks.take j)).map enc) 0)]) (fun j : Nat => j ≤ ks.length) (fun j : Nat => ks.length - j) 0 ?_ ?_ ?_
    · omega
    · ((try simp only [U2, Ka, U6, Kg, upd, Kh, Ko, Gd, Nat.reduceDiv, Nat.reduceMod, Nat.reduceMul, Nat.reduceAdd, Nat.reduceEqDiff, List.set_cons_zero, List.set_cons_succ, if_true, if_false, reduceIte]); (first | refine Wk.of_fl ?_ | skip); simp only [Wk, wkK, Gl, wkT, wk1, AV.kept, keptAll, wkO, lk, U5, and_true, true_and, and_self, Nat.reduceEqDiff, Nat.reduceLeDiff, if_true, if_false, reduceIte, reduceCtorEq, Option.isSome, false_implies]; try simp [Wk, wkK, wkT, wk1, AV.kept, keptAll, wkO, lk, U5])
      exact ⟨⟨rfl, rfl⟩, rfl, rfl⟩
    rintro j hj
    have hp1 : (Na (ks.take j)).length = j := by rw [T3, List.length_take]; omega
    have hp2 : (N3 (ks.take j)).length = j := by rw [Hd, List.length_take]; omega
    rcases Ks j l.length with ⟨hlt, hlb⟩ | ⟨hlt, hlb⟩
    · have hlt' : j < ks.length := by omega
      have hq := Ag 1 ks j hlt'
      rw [hl] at hq
      have ha := ats_at hks hlt'
      have hal := ha.lt
      have hel := Kf (0 : Int) (by omega : j < l.length)
      have hen := Kf n0 hal
      have hro : t.getD (1 + (ndss (ks.take j)).length) n0 = ks[j].root := ha.root n0
      have htj : K1 ar t (1 + (ndss (ks.take j)).length) = ks[j] := Gq ha
      have hs1 := parts_snoc hlt'
      have hs2 := labs_snoc hlt'
      (sym =>
       simp [hlb,hp1,hp2,hel,hq,hen,hro,htj,hs1,hs2,Int.toNat_natCast,Uu,Us,Uv,Ur,szN,Ut,ctx_types19_t,ctx_types19_c,ctx_types19_d,ctx_types19_b,ctx_types19_w,Mx.eq_def,B8.eq_def,Zb,Zc,Ze,Zf,Zg,Zo,Zp,Zq,Zr,Zs,Zv,Zx,Zy,Z1,Z4,Z5,Z6,Z9,Qb,Qd,Qe,Qf,Qq,Qs,Q1,Q2,Q4,Q8,Jb,Jc,Jd,Je,Jf,Jg,Jh,Ji,Jj,Jl,Jy,Jz,J0,J5,J6,J7,J8,J9,Xa,Xb,Xc,Xd,Xe,Xf,Xv,X3,X4,X6,X7,X8,Wc,Wf,Wh,Wi,Wj,Wl,Wn,Wt,Wu,Wv,Ww,Wx,Wz,W0,W3,W4,W5,W6,W7,W8,W9,Ya,Yb,Yd,Ye,Yi,Ym,Yo,Yt,Yu,Yw,Yx,Y0,Y1,Y2,Y4,Y7,Y8,Y9,Va,Vh,Vj,Vm,Vo,Vt,Vu,V3,V4,V9,Uk,Um,Un,Uo,Up,U8,Kq,U4,Kr,U3,My,H9]
       tactic =>
        try simp only [U1] at *
        try simp only [nc2] at *
        try simp (maxSteps := 4000000) only [hlb,hp1,hp2,hel,hq,hen,hro,htj,hs1,hs2,Int.toNat_natCast,Uu,Us,Uv,Ur,szN,Ut,U9]
        repeat' (first | with_reducible assumption | with_reducible refine And.intro ?_ ?_ | intro _ | omega | (rw [U0]; omega))
        · exact ⟨_, ha⟩
        · have hq1 : (Na (ks.take (j + 1))).length = j + 1 := by rw [T3, List.length_take]; omega
          have hq2 : (N3 (ks.take (j + 1))).length = j + 1 := by rw [Hd, List.length_take]; omega
          refine ⟨j + 1, ?_, by omega, by omega⟩
          ((try simp only [U2, Ka, U6, Kg, upd, Kh, Ko, Gd, Nat.reduceDiv, Nat.reduceMod, Nat.reduceMul, Nat.reduceAdd, Nat.reduceEqDiff, List.set_cons_zero, List.set_cons_succ, if_true, if_false, reduceIte]); (first | refine Wk.of_fl ?_ | skip); simp only [Wk, wkK, Gl, wkT, wk1, AV.kept, keptAll, wkO, lk, U5, and_true, true_and, and_self, Nat.reduceEqDiff, Nat.reduceLeDiff, if_true, if_false, reduceIte, reduceCtorEq, Option.isSome, false_implies]; try simp [Wk, wkK, wkT, wk1, AV.kept, keptAll, wkO, lk, U5, hq1, hq2])
          exact hs1)
    · have hjk : j = ks.length := by omega
      (sym =>
       simp [hlb,hp1,hp2,Hh.eq_def,hkt,Uu,Us,Uv,Ur,szN,Ut,ctx_types19_t,ctx_types19_d,Zb,Zc,Ze,Zf,Zg,Zo,Z6,Qb,Qd,Qn,Qo,Qp,Qq,Qs,Q1,Q2,Q4,Q8,Jh,Ji,Jk,Jy,Jz,J0,J5,J6,J7,J8,J9,Xa,Xb,Xc,Xh,X4,X6,X7,Wa,Wb,Wc,Wf,Wh,Wi,Wj,Wt,Wu,Wv,Ww,Ya,Yb,Yd,Ye,Yi,Y0,Y1,Y4,Y7,Y8,Y9,Va,Vt,Vu,Ul,Um,Un,Up,U8,Kq,U4,Kr,U3,My,H9]
       tactic =>
        try simp only [U1] at *
        try simp only [nc2] at *
        try simp (maxSteps := 4000000) only [hlb,hp1,hp2,Hh.eq_def,hkt,Uu,Us,Uv,Ur,szN,Ut,U9]
        repeat' (first | with_reducible assumption | with_reducible refine And.intro ?_ ?_ | intro _ | omega | (rw [U0]; omega))
        all_goals rw [hjk, List.take_length]))
def Kn : Con := con0 (Sl.mk (Eh [n0] [n0]))
noncomputable def Cv : Ctx := ⟨tab, lkC [(46, De)], 60, lkB [], [], false⟩
theorem ctx_dynamic19_t : Cv.τ = tab := rfl
theorem ctx_dynamic19_c : Cv.Γ = lkC [(46, De)] := rfl
theorem ctx_dynamic19_d : Cv.dp = 60 := rfl
theorem ctx_dynamic19_b : Cv.Δ = lkB [] := rfl
theorem Io : Gj Tryz.prog (19, Kn) := by
  refine ⟨U7 Tryz.func19 (by kernel_rfl) rfl, ?_⟩
  have K : Ky Tryz.prog Cv := Kd K6 Ki (by
    intro p hp
    simp only [List.mem_cons, List.not_mem_nil, or_false] at hp
    rcases hp with rfl
    · exact good_Arrow3) (by simp)
  obtain ⟨c, hc⟩ : ∃ c, Tryz.f19.body = some c := ⟨_, rfl⟩
  refine Ke K Tryz.func19 hc [.tmp 0] rfl 6 rfl (fun cvs hpre => ?_)
  change Kn.pre cvs at hpre
  unfold Kn at hpre
  obtain rfl := con0_pre hpre
  simp only [Tryz.f19, Option.some.injEq] at hc
  subst hc
  (sym =>
   simp [Uu,Us,Uv,Ur,szN,Ut,ctx_dynamic19_t,ctx_dynamic19_c,ctx_dynamic19_d,ctx_dynamic19_b,De.eq_def,Kn.eq_def,Za,Zb,Zc,Ze,Zf,Zn,Zo,Zr,Z1,Z2,Z9,Qe,Qf,Qh,Ql,Qn,Qo,Qp,Qq,Qs,Q1,Q2,Q4,Q7,Q8,Ja,Jb,Jc,Jd,Je,Jf,Jg,Jh,Ji,Jj,Jk,Jl,Jw,J3,J4,Xd,Xe,Xf,Xh,Xs,Xt,Xv,X4,X6,Wb,Wc,Wf,Wh,Wi,Wj,Wm,Wn,Wt,Wu,Wv,Ww,Wx,Wy,Wz,W0,W3,W4,W5,W6,W7,Yq,Y7,Y8,Y9,Va,Vc,Vk,Vu,V3,V7,V9,Um,Un,U4,U3]
   tactic =>
    try simp only [U1] at *
    try simp only [nc2] at *
    try simp (maxSteps := 4000000) only [Uu,Us,Uv,Ur,szN,Ut,U9]
    repeat' (first | with_reducible assumption | with_reducible refine And.intro ?_ ?_ | intro _ | omega | (rw [U0]; omega)))
def Ge : Con := Hh (fun (_ : VNode) => True) (fun n => (baseK n, baseOk n))
noncomputable def ctx_base19 : Ctx := ⟨tab, lkC [], 60, lkB [], [], false⟩
theorem ctx_base19_t : ctx_base19.τ = tab := rfl
theorem ctx_base19_d : ctx_base19.dp = 60 := rfl
theorem good_base19 : Gj Tryz.prog (16, Ge) := by
  refine ⟨U7 Tryz.func16 (by kernel_rfl) rfl, ?_⟩
  have K : Ky Tryz.prog ctx_base19 := Kd K6 Ki (by simp) (by simp)
  obtain ⟨c, hc⟩ : ∃ c, Tryz.f16.body = some c := ⟨_, rfl⟩
  refine Ke K Tryz.func16 hc [.tmp 2, .tmp 3] rfl 14 rfl (fun cvs hpre => ?_)
  change Ge.pre cvs at hpre
  unfold Ge at hpre
  obtain ⟨n, rfl, -⟩ := con1t_pre hpre
  simp only [Tryz.f16, Option.some.injEq] at hc
  subst hc
  (sym =>
   simp [Hh.eq_def,Uw,Uz,Uy,Ux,szV,ctx_base19_t,ctx_base19_d,Ge.eq_def,Za,Zb,Zc,Ze,Zf,Zg,Zo,Zp,Zq,Zs,Zu,Zv,Zx,Qb,Qd,Ql,Qm,Qn,Qo,Qp,Qq,Qs,Q1,Q2,Q4,Q8,Jh,Ji,Jk,Jw,J3,J4,Xf,Xs,X3,X4,X6,X7,X8,Wb,Wc,Wf,Wh,Wi,Wj,Wt,Wu,Wv,Ww,Wy,W0,W4,W5,W6,W7,W8,Ye,Yi,Yq,Yx,Yy,Y7,Y8,Y9,Va,Vb,Vc,V4,V5,Um,Un,U8,Kb]
   tactic =>
    try simp only [U1] at *
    try simp only [nc2] at *
    try simp (maxSteps := 4000000) only [Hh.eq_def,Uw,Uz,Uy,Ux,szV,U9]
    unfold baseK baseOk
    repeat' (first | with_reducible assumption | with_reducible refine And.intro ?_ ?_ | intro _ | omega | (rw [U0]; omega))
    all_goals first
      | rfl
      | (simp_all; done)
      | (simp_all [Bool.cond_eq_ite]; done)
      | skip)
noncomputable def Kt : Con := Bg (fun (v : Sl VNode) (l : Sl (List UInt8)) => v.l.length ≤ 1000000 ∧ (∃ x, Co v.l x) ∧ l.l.length ≤ 9223372036854775807) (fun v l => (L7 v.l).kind == 4 && Le (K1 arV v.l 0).kids == l.l)
noncomputable def T8 : Ctx := ⟨tab, lkC [(17, K3)], 60, lkB [], [], false⟩
theorem Lw : T8.τ = tab := rfl
theorem Tl : T8.Γ = lkC [(17, K3)] := rfl
theorem Tk : T8.dp = 60 := rfl
theorem Tm : T8.Δ = lkB [] := rfl
theorem ctx_labels19_w : T8.wr = false := rfl
set_option maxRecDepth 100000 in
theorem good_labels19 : Gj Tryz.prog (21, Kt) := by
  refine ⟨U7 Tryz.func21 (by kernel_rfl) rfl, ?_⟩
  have K : Ky Tryz.prog T8 := Kd K6 Ki (by
    intro p hp
    simp only [List.mem_cons, List.not_mem_nil, or_false] at hp
    rcases hp with rfl
    · exact Oo) (by simp)
  obtain ⟨c, hc⟩ : ∃ c, Tryz.f21.body = some c := ⟨_, rfl⟩
  refine Ke K Tryz.func21 hc [.tmp 4] rfl 39 rfl (fun cvs hpre => ?_)
  change Kt.pre cvs at hpre
  unfold Kt at hpre
  obtain ⟨⟨v⟩, ⟨l⟩, rfl, hv, ⟨x, hx⟩, hl⟩ := Gi hpre
  simp only at hv hx hl
  have hx1 := hx.tree
  have hxl := hx.at.lt
  have ev := Kf v0 hxl
  have hro := hx.at.root v0
  have hk9 := Oj hx (by omega)
  have hrv : L7 v = x.root := hro
  rw [hro] at ev
  obtain ⟨ks, hks⟩ : ∃ ks, x.kids = ks := ⟨_, rfl⟩
  rw [hks] at hk9
  have hsl : (sls ks).length = ks.length := T0
  have hkl := Oi x.kids
  have hvl : v.length = 1 + (ndss x.kids).length := by rw [hx.1, Nc, List.length_cons]; omega
  rw [hks] at hkl hvl
  obtain ⟨m, hm⟩ : ∃ m, x.root = m := ⟨_, rfl⟩
  rw [hm] at ev hrv
  obtain ⟨R, hR⟩ : ∃ R, (m.kind == 4 && Le ks == l) = R := ⟨_, rfl⟩
  have hR2 := hR
  clear hpre
  simp only [Tryz.f21, Option.some.injEq] at hc
  subst hc
  refine Kw 2 (of_decide_eq_true (by kernel_rfl)) ?_
  cases k4 : (m.kind == 4) with
  | false =>
    have n4 : (m.kind != 4) = true := by rw [bne, k4]; rfl
    rw [k4, Bool.false_and] at hR2
    (sym =>
     simp [hx1,hk9,hks,hrv,ev,n4,k4,hsl,Uw,Uz,Uy,Ux,szV,Lw,Tl,Tk,Tm,K3.eq_def,Kt.eq_def,Zb,Zc,Zd,Ze,Zf,Zo,Zp,Zq,Zs,Zt,Zv,Zx,Zy,Z9,Qb,Qd,Qe,Qf,Qn,Qo,Qp,Qq,Qs,Q1,Q2,Q4,Q8,Jf,Jj,Jk,Jl,Jw,J3,J4,J5,J6,J8,J9,Xb,Xc,Xf,Xn,Xo,Xu,Xv,X4,X6,X7,Wb,Wc,Wf,Wh,Wi,Wj,Wt,Wu,Wv,Ww,Wx,Wy,Wz,W0,W6,W7,W8,W9,Ya,Yb,Ye,Yi,Ym,Yt,Yw,Yy,Y0,Y1,Y7,Y8,Vb,Vc,Vd,Ve,Vf,Vg,Vj,Vo,Vs,Vt,Vu,V4,V5,Uc,Uk,Um,Un,Uo,Up,U8,Kq,Kc,My,Kb,Gg]
     tactic =>
      try simp only [U1] at *
      try simp only [nc2] at *
      try simp (maxSteps := 4000000) only [hx1,hk9,hks,hrv,ev,n4,k4,hsl,Uw,Uz,Uy,Ux,szV,U9]
      repeat' (first | with_reducible assumption | with_reducible refine And.intro ?_ ?_ | intro _ | omega | (rw [U0]; omega))
      all_goals first
        | omega
        | rfl
        | skip)
  | true =>
  have n4 : (m.kind != 4) = false := by rw [bne, k4]; rfl
  rw [k4, Bool.true_and] at hR2
  by_cases hlen : ks.length = l.length
  case neg =>
    have hne : ((ks.length : Int) != (l.length : Int)) = true := by rw [bne_iff_ne]; omega
    have hf : (Le ks == l) = false := by
      rw [beq_eq_false_iff_ne]
      intro e
      rw [← e, Bv] at hlen
      exact hlen rfl
    (sym =>
     simp [hx1,hk9,hks,hrv,ev,n4,k4,hsl,hne,hf,Uw,Uz,Uy,Ux,szV,Lw,Tl,Tk,Tm,K3.eq_def,Kt.eq_def,Zb,Zc,Zd,Ze,Zf,Zo,Zp,Zq,Zs,Zt,Zv,Zx,Zy,Z6,Z9,Qb,Qd,Qe,Qf,Qn,Qo,Qp,Qq,Qs,Q1,Q2,Q4,Q8,Jf,Jj,Jk,Jl,Jw,J3,J4,J5,J6,J8,J9,Xb,Xc,Xf,Xn,Xo,Xu,Xv,X4,X6,X7,Wb,Wc,Wf,Wh,Wi,Wj,Wt,Wu,Wv,Ww,Wx,Wy,Wz,W0,W6,W7,W8,W9,Ya,Yb,Ye,Yi,Ym,Yt,Yw,Yy,Y0,Y1,Y5,Y6,Y7,Y8,Vb,Vc,Vd,Ve,Vf,Vg,Vj,Vo,Vs,Vt,Vu,V4,V5,Ub,Uk,Ul,Um,Un,Uo,Up,U8,Kq,Kc,My,Kb,Gg]
     tactic =>
      try simp only [U1] at *
      try simp only [nc2] at *
      try simp (maxSteps := 4000000) only [hx1,hk9,hks,hrv,ev,n4,k4,hsl,hne,hf,Uw,Uz,Uy,Ux,szV,U9]
      repeat' (first | with_reducible assumption | with_reducible refine And.intro ?_ ?_ | intro _ | omega | (rw [U0]; omega))
      all_goals first
        | omega
        | rfl
        | skip)
  have hne : ((ks.length : Int) != (l.length : Int)) = false := by rw [hlen, bne_self_eq_false]
  (sym =>
   simp [hx1,hk9,hks,hrv,ev,n4,k4,hsl,hne,Uw,Uz,Uy,Ux,szV,Lw,Tl,Tk,Tm,K3.eq_def,Kt.eq_def,Zb,Zc,Zd,Ze,Zf,Zo,Zp,Zq,Zs,Zt,Zv,Zx,Zy,Z6,Z9,Qb,Qd,Qe,Qf,Qq,Qs,Q1,Q2,Q4,Q8,Jf,Jj,Jl,Jw,J3,J4,J5,J6,J8,J9,Xb,Xc,Xf,Xn,Xo,Xu,Xv,X3,X4,X6,X7,X8,X9,Wc,Wf,Wh,Wi,Wj,Wt,Wu,Wv,Ww,Wx,Wy,Wz,W0,W6,W7,W8,W9,Ya,Yb,Ye,Yi,Ym,Yt,Yw,Yy,Y0,Y1,Y5,Y6,Y7,Y8,Vb,Vc,Vd,Ve,Vf,Vg,Vj,Vo,Vs,Vt,Vu,V4,V5,Ua,Ul,Um,Un,Uo,Up,U8,Kq,Kc,My,Kb,Gg]
   tactic =>
    try simp only [U1] at *
    try simp only [nc2] at *
    try simp (maxSteps := 4000000) only [hx1,hk9,hks,hrv,ev,n4,k4,hsl,hne,Uw,Uz,Uy,Ux,szV,U9]
    repeat' (first | with_reducible assumption | with_reducible refine And.intro ?_ ?_ | intro _ | omega | (rw [U0]; omega))
    refine Km [4, 21, 22, 23, 24, 25, 26, 27, 28, 29, 30, 31, 32, 33, 34, 35, 36, 37, 38] (fun k : Nat => [(6, .d (.int .i64 k))]) (fun k : Nat => []) (fun k : Nat => k ≤ l.length ∧ ∀ j, j < k → (Le ks).getD j [] = l.getD j []) (fun k : Nat => l.length - k) 0 ?_ ?_ ?_
    · simp
    · ((try simp only [U2, Ka, U6, Kg, upd, Kh, Ko, Gd, Nat.reduceDiv, Nat.reduceMod, Nat.reduceMul, Nat.reduceAdd, Nat.reduceEqDiff, List.set_cons_zero, List.set_cons_succ, if_true, if_false, reduceIte]); (first | refine Wk.of_fl ?_ | skip); simp only [Wk, wkK, Gl, wkT, wk1, AV.kept, keptAll, wkO, lk, U5, and_true, true_and, and_self, Nat.reduceEqDiff, Nat.reduceLeDiff, if_true, if_false, reduceIte, reduceCtorEq, Option.isSome, false_implies]; try simp [Wk, wkK, wkT, wk1, AV.kept, keptAll, wkO, lk, U5])
    rintro k ⟨hk, hno⟩
    rcases Ks k l.length with ⟨hlt, hlb⟩ | ⟨hlt, hlb⟩
    · have hlk : k < ks.length := by omega
      have q1 := Kf (⟨[]⟩ : Sl VNode) (show k < (sls ks).length by omega)
      rw [O6 hlk] at q1
      have q3 := Kf ([] : List UInt8) hlt
      have hlb2 := kid_label hlk
      obtain ⟨z, hz⟩ : ∃ z, ks[k] = z := ⟨_, rfl⟩
      rw [hz] at q1 hlb2
      have q2 := Kf v0 (show 0 < (nds z).length from N8 z)
      have hzr : (nds z).getD 0 v0 = z.root := by rw [Nc]; rfl
      have hzp := N8 z
      rw [hzr] at q2
      obtain ⟨a, ha⟩ : ∃ a, z.root = a := ⟨_, rfl⟩
      rw [ha] at q2 hlb2
      obtain ⟨b, hb⟩ : ∃ b, l.getD k [] = b := ⟨_, rfl⟩
      rw [hb] at q3
      cases hab : (a.label == b) with
      | false =>
        have hf : (Le ks == l) = false := by
          rw [beq_eq_false_iff_ne]
          intro e
          rw [e, hb] at hlb2
          rw [hlb2, beq_self_eq_true] at hab
          cases hab
        (sym =>
         simp [hlb,q1,q2,q3,hab,hf,hx1,hks,hrv,k4,hsl,Uw,Uz,Uy,Ux,szV,Lw,Tl,Tk,Tm,ctx_labels19_w,K3.eq_def,Zb,Zc,Ze,Zf,Zg,Zh,Zi,Zj,Zk,Zl,Zm,Zo,Zp,Zq,Zs,Zv,Zx,Zy,Z6,Qb,Qd,Qn,Qo,Qp,Qq,Qr,Qs,Q1,Q2,Q4,Q5,Q6,Q8,Jk,Jy,Jz,J0,J5,J6,J7,J8,J9,Xa,Xb,Xc,Xf,Xu,X3,X4,X5,X6,X7,X8,Wb,Wc,Wd,We,Wf,Wg,Wh,Wi,Wj,Wp,Wt,Wu,Wv,Ww,W4,W5,W8,W9,Ya,Yb,Yd,Ye,Yg,Yi,Yk,Ym,Yu,Yw,Yz,Y0,Y1,Y3,Y5,Y6,Y7,Y8,Y9,Va,Vq,Vr,Vs,Vt,Vu,V4,V5,Uk,Ul,Um,Un,Uo,Up,Uq,U8,Kq,Kc,My,Kb,Gg]
         tactic =>
          try simp only [U1] at *
          try simp only [nc2] at *
          try simp (maxSteps := 4000000) only [hlb,q1,q2,q3,hab,hf,hx1,hks,hrv,k4,hsl,Uw,Uz,Uy,Ux,szV,U9]
          repeat' (first | with_reducible assumption | with_reducible refine And.intro ?_ ?_ | intro _ | omega | (rw [U0]; omega))
          all_goals first
            | (with_reducible refine Kl ?_; kernel_rfl)
            | omega
            | rfl
            | skip)
      | true =>
        have hst : ∀ j, j < k + 1 → (Le ks).getD j [] = l.getD j [] := by
          intro j hj
          by_cases hjk : j = k
          · subst hjk; rw [hlb2, hb]; simpa using hab
          · exact hno j (by omega)
        (sym =>
         simp [hlb,q1,q2,q3,hab,hsl,Uw,Uz,Uy,Ux,szV,Lw,Tl,Tm,ctx_labels19_w,K3.eq_def,Zb,Zc,Ze,Zf,Zg,Zh,Zi,Zj,Zk,Zl,Zm,Zo,Zp,Zq,Zs,Zv,Zx,Zy,Z6,Qb,Qd,Qq,Qr,Qs,Q1,Q2,Q4,Q5,Q6,Jy,Jz,J0,J5,J6,J7,J8,J9,Xa,Xb,Xc,Xu,X3,X4,X5,X6,X7,X8,Wc,Wd,We,Wf,Wg,Wh,Wi,Wj,Wp,Wt,Wu,Wv,Ww,W4,W5,W8,W9,Ya,Yb,Yd,Ye,Yg,Yi,Yk,Ym,Yu,Yw,Yz,Y0,Y1,Y3,Y5,Y6,Y7,Y8,Y9,Va,Vp,Vr,Vs,Vt,Vu,V4,Uk,Ul,Um,Un,Uo,Up,Uq,U8,Kq,Kc,My,Kb,Gg]
         tactic =>
          try simp only [U1] at *
          try simp only [nc2] at *
          try simp (maxSteps := 4000000) only [hlb,q1,q2,q3,hab,hsl,Uw,Uz,Uy,Ux,szV,U9]
          repeat' (first | with_reducible assumption | with_reducible refine And.intro ?_ ?_ | intro _ | omega | (rw [U0]; omega))
          all_goals first
            | (with_reducible refine Kl ?_; kernel_rfl)
            | omega
            | exact ⟨k + 1, by ((try simp only [U2, Ka, U6, Kg, upd, Kh, Ko, Gd, Nat.reduceDiv, Nat.reduceMod, Nat.reduceMul, Nat.reduceAdd, Nat.reduceEqDiff, List.set_cons_zero, List.set_cons_succ, if_true, if_false, reduceIte]); (first | refine Wk.of_fl ?_ | skip); simp only [Wk, wkK, Gl, wkT, wk1, AV.kept, keptAll, wkO, lk, U5, and_true, true_and, and_self, Nat.reduceEqDiff, Nat.reduceLeDiff, if_true, if_false, reduceIte, reduceCtorEq, Option.isSome, false_implies]; try simp [Wk, wkK, wkT, wk1, AV.kept, keptAll, wkO, lk, U5]), by omega, hst, by omega⟩
            | skip)
    · have hf : (Le ks == l) = true := by
        rw [beq_iff_eq]
        refine List.ext_getElem (by rw [Bv]; exact hlen) fun j h1 h2 => ?_
        have := hno j (by omega)
        rw [M4 h1, M4 h2] at this
        exact this
      (sym =>
       simp [hlb,hf,hx1,hks,hrv,k4,hsl,Uw,Uz,Uy,Ux,szV,Lw,Tk,Zb,Zc,Ze,Zf,Zg,Zo,Z6,Qb,Qd,Qn,Qo,Qp,Qq,Qs,Q1,Q2,Q4,Q8,Jk,Jy,Jz,J0,J5,J6,J8,J9,Xa,Xb,Xc,Xf,X4,X6,X7,Wa,Wb,Wc,Wf,Wh,Wi,Wj,Wt,Wu,Wv,Ww,Ya,Yb,Yd,Ye,Yi,Y0,Y1,Y5,Y7,Y8,Y9,Va,Vt,Vu,V5,Ul,Um,Un,Uo,Up,U8,Kq,Kc,My,Kb,Gg]))
end Go.Am.Ty
set_option linter.unusedSimpArgs false
set_option linter.unusedVariables false
set_option maxHeartbeats 4000000
namespace Go.Am.Ty
open Go.Proofs Go.Rose Go.Rose.Rose
open Enc (enc dec)
noncomputable def Hc (n : Nat) : Con := Bg (fun (v : Sl VNode) (t : Sl Node) => v.l.length ≤ 1000000 ∧ (∃ x, Co v.l x) ∧ (∀ m ∈ v.l, L5 m) ∧ Bh t.l ∧ Nt t.l = true ∧ v.l.length < n) (fun v t => fits9 (K1 arV v.l 0) (K1 ar t.l 0))
theorem con_Fits19_zero : ∀ c, ¬ (Hc 0).pre c := by
  intro c h
  unfold Hc at h
  obtain ⟨_, _, _, _, _, _, _, _, h⟩ := Gi h
  omega
theorem parts_sls (qs : List (Rose Node)) : Na qs = Mc (qs.map M2) := by
  unfold Na Mc
  rw [List.map_map]
  congr 1
  funext k
  simp only [Function.comp, Fu]
theorem findIdx_hit {α : Type} {p : α → Bool} {l : List α} {k : Nat} (h : k < l.length) (h1 : p l[k] = true) (h2 : ∀ j (h : j < l.length), j < k → p l[j] = false) : l.findIdx? p = some k := by
  rw [List.findIdx?_eq_some_iff_getElem]
  refine ⟨h, h1, fun j hj => ?_⟩
  rw [h2 j (by omega) hj]
  decide
theorem findIdx_miss {α : Type} {p : α → Bool} {l : List α} (h : ∀ j (h : j < l.length), p l[j] = false) : l.findIdx? p = none := by
  rw [List.findIdx?_eq_none_iff]
  intro x hx
  obtain ⟨j, hj, rfl⟩ := List.getElem_of_mem hx
  exact h j hj
noncomputable def Fa (n : Nat) : Ctx := ⟨tab, lkC [(16, Ge), (17, K3), (19, Kn), (18, Kj), (20, Kk), (21, Kt), (6, (Hc n))], 60, lkB [], [], false⟩
theorem Hn (n : Nat) : (Fa n).τ = tab := rfl
theorem Nn (n : Nat) : (Fa n).Γ = lkC [(16, Ge), (17, K3), (19, Kn), (18, Kj), (20, Kk), (21, Kt), (6, (Hc n))] := rfl
theorem Nz (n : Nat) : (Fa n).dp = 60 := rfl
theorem Np (n : Nat) : (Fa n).Δ = lkB [] := rfl
theorem Lk (n : Nat) : (Fa n).wr = false := rfl
set_option maxRecDepth 100000 in
theorem step_Fits19 (n : Nat) (ih : Gj Tryz.prog (6, Hc n)) : Gj Tryz.prog (6, (Hc (n + 1))) := by
  refine ⟨U7 Tryz.func6 (by kernel_rfl) rfl, ?_⟩
  have K : Ky Tryz.prog (Fa n) := Kd K6 Ki (by
    intro p hp
    simp only [List.mem_cons, List.not_mem_nil, or_false] at hp
    rcases hp with rfl | rfl | rfl | rfl | rfl | rfl | rfl
    · exact good_base19
    · exact Oo
    · exact Io
    · exact Ew
    · exact D3
    · exact good_labels19
    · exact ih) (by simp)
  obtain ⟨c, hc⟩ : ∃ c, Tryz.f6.body = some c := ⟨_, rfl⟩
  refine Ke K Tryz.func6 hc [.tmp 4] rfl 138 rfl (fun cvs hpre => ?_)
  change (Hc (n + 1)).pre cvs at hpre
  unfold Hc at hpre
  obtain ⟨⟨v⟩, ⟨t⟩, rfl, hv, ⟨x, hx⟩, hS, hT7, hTp, hn⟩ := Gi hpre
  simp only at hv hx hS hT7 hTp hn
  have hT7' : Bh t := hT7
  obtain ⟨tl, tN, y, hyt, hyw⟩ : Bh t := hT7
  have hya : At ar t 0 y := by rw [hyt]; exact Ns hyw
  have hy1 := Gq hya
  have hx1 := hx.tree
  have hxl := hx.at.lt
  have hyl := hya.lt
  have ev := Kf v0 hxl
  have et := Kf n0 hyl
  rw [hx.at.root v0] at ev
  rw [hya.root n0] at et
  have hk9 := Oj hx (by omega)
  have hro := hx.at.root v0
  have hrv : L7 v = x.root := hro
  have hSx : L5 x.root := by
    have := hS _ (Cs (d := v0) hxl)
    rw [hro] at this
    exact this
  obtain ⟨hs1, hs2⟩ := hSx
  obtain ⟨R, hR⟩ : ∃ R, fits9 x y = R := ⟨_, rfl⟩
  have hR2 := hR
  rw [show x = mk x.root x.kids by cases x; rfl, fits9] at hR2
  rw [← hyt] at hR2
  have hsub := @oneV_sub x hx.2
  have hmem := @kid_memV x
  have hlen := @kid_lenV x
  have hk1 := kid1 hx.2
  rw [← hx.1] at hmem hlen
  have h7s := @sub7 y hyw (by rw [← hyt]; exact tN) (by rw [← hyt]; exact hTp) (by rw [← hyt]; exact tl)
  have k7 : kids7 t = (⟨Na y.kids⟩, ⟨N3 y.kids⟩) := Ii hya
  have lle := labs_le hya
  rw [Hd] at lle
  obtain ⟨ks, hks⟩ : ∃ ks, x.kids = ks := ⟨_, rfl⟩
  rw [hks] at hR2 hk9
  simp only [hks] at hsub hmem hlen hk1
  obtain ⟨qs, hqs⟩ : ∃ qs, y.kids = qs := ⟨_, rfl⟩
  rw [hqs] at hR2 k7 lle
  simp only [hqs] at h7s
  have hsl : (sls ks).length = ks.length := T0
  have hpl : (Na qs).length = qs.length := T3
  have hll : (N3 qs).length = qs.length := Hd
  have hkk : ks.length ≤ v.length := by rw [hx.1, Nc, List.length_cons, hks]; have := Oi ks; omega
  obtain ⟨m, hm⟩ : ∃ m, x.root = m := ⟨_, rfl⟩
  rw [hm] at ev hR2 hs1 hs2 hk1 hrv
  obtain ⟨p, hp⟩ : ∃ p, y.root = p := ⟨_, rfl⟩
  rw [hp] at et hR2
  have htl2 : t.length ≤ 9223372036854775807 := by omega
  obtain ⟨dl, hDl⟩ : ∃ dl, dl = Fx := ⟨_, rfl⟩
  have hdl : dl.length ≤ 9223372036854775807 := by rw [hDl]; decide
  rw [← hDl] at hR2
  have hDl2 : Eh [n0] [n0] = dl := by rw [hDl]; rfl
  have ht1 : List.take 1 (t.map (enc : Node → D)) = [p].map enc := by
    rw [hyt, Nc, hp]
    rfl
  have hxo : ∃ x, Co v x := ⟨x, hx⟩
  clear hpre hDl
  simp only [Tryz.f6, Option.some.injEq] at hc
  subst hc
  refine Kw 8 (of_decide_eq_true (by kernel_rfl)) ?_
  cases t0 : (p.kind == 0) with
  | true =>
    rw [t0, cond_true] at hR2
    cases k7b : (m.kind == 7) with
    | true =>
      rw [k7b, cond_true] at hR2
      (sym =>
       simp [hx1,hy1,hk9,ev,et,hR,t0,k7b,hDl2,Hh.eq_def,hR2,Uw,Uz,Uy,Ux,szV,Uu,Us,Uv,Ur,szN,Ut,Hn,Nn,Nz,Np,Lk,Hc.eq_def,K3.eq_def,Kj.eq_def,Ge.eq_def,Kn.eq_def,Kt.eq_def,Kk.eq_def,Zb,Zc,Ze,Zf,Zg,Zh,Zi,Zj,Zk,Zl,Zm,Zo,Zp,Zq,Zs,Zu,Zv,Zw,Zx,Zy,Z8,Z9,Qb,Qd,Qe,Qf,Qg,Qh,Qk,Ql,Qm,Qn,Qo,Qp,Qq,Qr,Qs,Q1,Q2,Q4,Q5,Q6,Q8,Q9,Ja,Jf,Jh,Ji,Jj,Jk,Jl,Jw,J3,J4,J5,J6,J8,J9,Xb,Xc,Xf,Xn,Xo,Xp,Xr,Xs,Xt,Xu,Xv,X4,X5,X6,X7,X8,Wb,Wc,Wd,We,Wf,Wg,Wh,Wi,Wj,Wm,Wp,Wq,Wr,Ws,Wt,Wu,Wv,Ww,Wx,Wy,Wz,W0,W4,W5,W6,W7,W8,W9,Ya,Yb,Ye,Yi,Ym,Yq,Yt,Yw,Yx,Yy,Y0,Y1,Y7,Y8,Vb,Vc,Vd,Ve,Vf,Vg,Vj,Vk,Vl,Vo,Vs,Vt,Vu,V4,V5,Uk,Ul,Um,Un,Uo,Up,Uq,U8,Ku,Kq,Kc,U4,Kr,U3,My,Kb,Gg]
       tactic =>
        try simp only [U1] at *
        try simp only [nc2] at *
        try simp (maxSteps := 4000000) only [hx1,hy1,hk9,ev,et,hR,t0,k7b,hDl2,Hh.eq_def,hR2,Uw,Uz,Uy,Ux,szV,Uu,Us,Uv,Ur,szN,Ut,U9]
        repeat' (first | with_reducible assumption | with_reducible refine And.intro ?_ ?_ | intro _ | omega | (rw [U0]; omega))
        all_goals first
          | (with_reducible refine Kl ?_; kernel_rfl)
          | omega
          | rfl
          | skip)
    | false =>
      rw [k7b, cond_false, Ir] at hR2
      have hp7 : Bh [p] := by
        have hw : wf ar (mk p []) := ⟨by rw [Ia (by simpa using t0)]; rfl, trivial⟩
        refine ⟨by simp, ?_, mk p [], rfl, hw⟩
        intro q hq
        rw [List.mem_singleton] at hq
        rw [hq, ← hp]
        exact tN _ (by rw [hyt]; exact Ld y)
      have hpp : Nt [p] = true := by
        rw [P9] at *
        intro q hq
        rw [List.mem_singleton] at hq
        rw [hq, ← hp]
        exact hTp _ (by rw [hyt]; exact Ld y)
      have htp : K1 ar [p] 0 = mk p [] := Gq (at_dyn (by simpa using t0))
      obtain ⟨P, hP⟩ : ∃ P : Nat → Bool, P = fun j => fits9 (ks.getD j dv) ((List.replicate ks.length (mk p [])).getD j Gu) := ⟨_, rfl⟩
      rw [← hP] at hR2
      (sym =>
       simp [hx1,hy1,hk9,ev,et,t0,k7b,Hh.eq_def,Uw,Uz,Uy,Ux,szV,Uu,Us,Uv,Ur,szN,Ut,Hn,Nn,Nz,Np,Hc.eq_def,K3.eq_def,Kj.eq_def,Ge.eq_def,Kn.eq_def,Kt.eq_def,Kk.eq_def,Zb,Zc,Ze,Zf,Zo,Zp,Zq,Zs,Zu,Zv,Zw,Zx,Zy,Z8,Z9,Qb,Qd,Qe,Qf,Qg,Qh,Qk,Ql,Qm,Qq,Qs,Q1,Q2,Q4,Q8,Q9,Ja,Jf,Jh,Ji,Jj,Jl,Jw,J3,J4,J5,J6,J8,J9,Xb,Xc,Xf,Xn,Xo,Xp,Xr,Xs,Xt,Xu,Xv,X3,X4,X6,X7,X8,X9,Wc,Wf,Wh,Wi,Wj,Wm,Wt,Wu,Wv,Ww,Wx,Wy,Wz,W0,W4,W5,W6,W7,W8,Ya,Yb,Ye,Yi,Ym,Yq,Yt,Yw,Yx,Yy,Y0,Y1,Y7,Y8,Vb,Vc,Vd,Ve,Vf,Vg,Vj,Vo,Vs,Vt,Vu,V4,V5,Uk,Ul,Um,Un,Uo,Up,Uq,U8,Ku,Kq,Kc,U4,Kr,U3,My,Kb,Gg]
       tactic =>
        try simp only [U1] at *
        try simp only [nc2] at *
        try simp (maxSteps := 4000000) only [hx1,hy1,hk9,ev,et,t0,k7b,Hh.eq_def,Uw,Uz,Uy,Ux,szV,Uu,Us,Uv,Ur,szN,Ut,U9]
        repeat' (first | with_reducible assumption | with_reducible refine And.intro ?_ ?_ | intro _ | omega | (rw [U0]; omega))
        refine Km [4, 39, 40, 41, 42, 43, 44, 45, 46, 47, 48, 49, 50, 51, 52] (fun k : Nat => [(9, .d (.int .i64 k))]) (fun k : Nat => []) (fun k : Nat => k ≤ ks.length ∧ ∀ j, j < k → P j = true) (fun k : Nat => ks.length - k) 0 ?_ ?_ ?_
        · simp
        · ((try simp only [U2, Ka, U6, Kg, upd, Kh, Ko, Gd, Nat.reduceDiv, Nat.reduceMod, Nat.reduceMul, Nat.reduceAdd, Nat.reduceEqDiff, List.set_cons_zero, List.set_cons_succ, if_true, if_false, reduceIte]); (first | refine Wk.of_fl ?_ | skip); simp only [Wk, wkK, Gl, wkT, wk1, AV.kept, keptAll, wkO, lk, U5, and_true, true_and, and_self, Nat.reduceEqDiff, Nat.reduceLeDiff, if_true, if_false, reduceIte, reduceCtorEq, Option.isSome, false_implies]; try simp [Wk, wkK, wkT, wk1, AV.kept, keptAll, wkO, lk, U5])
        rintro k ⟨hk, hno⟩
        rcases Ks k ks.length with ⟨hlt, hlb⟩ | ⟨hlt, hlb⟩
        · have q1 := Kf (⟨[]⟩ : Sl VNode) (show k < (sls ks).length by omega)
          rw [O6 hlt] at q1
          have hPk : P k = fits9 ks[k] (mk p []) := by rw [hP]; simp [hlt]
          have g1 := hsub hlt
          have g2 := hlen hlt
          have g3 := fun m hm => hS m (hmem hlt m hm)
          obtain ⟨z, hz⟩ : ∃ z, ks[k] = z := ⟨_, rfl⟩
          rw [hz] at q1 g1 g2 g3 hPk
          have tz := g1.tree
          cases hf : fits9 z (mk p []) with
          | false =>
            rw [hf] at hPk
            rw [Cq k hlt hPk] at hR2
            subst hR2
            (sym =>
             simp [hlb,hsl,q1,ht1,tz,htp,hf,hx1,hy1,hR,Uw,Uz,Uy,Ux,szV,Uu,Us,Uv,Ur,szN,Ut,Hn,Nn,Nz,Np,Lk,Hc.eq_def,K3.eq_def,Kj.eq_def,Ge.eq_def,Kn.eq_def,Kt.eq_def,Kk.eq_def,Zb,Zc,Ze,Zf,Zg,Zh,Zi,Zj,Zk,Zl,Zm,Zo,Zp,Zq,Zv,Zy,Z0,Z6,Z9,Qb,Qc,Qd,Qe,Qf,Qj,Qn,Qo,Qp,Qq,Qr,Qs,Q1,Q2,Q4,Q5,Q6,Q8,Jf,Jj,Jk,Jl,Jx,Jy,Jz,J0,J5,J6,J8,J9,Xb,Xc,Xf,Xt,Xu,Xv,X3,X4,X5,X6,X7,X8,Wb,Wc,Wd,We,Wf,Wg,Wh,Wi,Wj,Wp,Wq,Wr,Ws,Wt,Wu,Wv,Ww,Wx,Wz,W0,W4,W5,Ya,Yb,Yd,Ye,Yf,Yi,Yj,Ym,Yy,Y0,Y1,Y3,Y6,Y7,Y8,Vc,Vj,Vk,Vo,Vq,Vr,Vt,Vu,Vy,V4,V5,Uk,Ul,Um,Un,Uo,Up,Uq,U8,Ku,Kq,Kc,U4,Kr,U3,My,Kb,Gg]
             tactic =>
              try simp only [U1] at *
              try simp only [nc2] at *
              try simp (maxSteps := 4000000) only [hlb,hsl,q1,ht1,tz,htp,hf,hx1,hy1,hR,Uw,Uz,Uy,Ux,szV,Uu,Us,Uv,Ur,szN,Ut,U9]
              repeat' (first | with_reducible assumption | with_reducible refine And.intro ?_ ?_ | intro _ | omega | (rw [U0]; omega))
              all_goals first
                | (with_reducible refine Kl ?_; kernel_rfl)
                | omega
                | exact ⟨_, g1⟩
                | exact g3
                | exact hp7
                | exact hpp
                | skip)
          | true =>
            rw [hf] at hPk
            have hst : ∀ j, j < k + 1 → P j = true := by
              intro j hj
              by_cases hjk : j = k
              · subst hjk; exact hPk
              · exact hno j (by omega)
            (sym =>
             simp [hlb,hsl,q1,ht1,tz,htp,hf,Uw,Uz,Uy,Ux,szV,Uu,Us,Uv,Ur,szN,Ut,Hn,Nn,Np,Lk,Hc.eq_def,K3.eq_def,Kj.eq_def,Ge.eq_def,Kn.eq_def,Kt.eq_def,Kk.eq_def,Zb,Zc,Ze,Zf,Zg,Zh,Zi,Zj,Zk,Zl,Zm,Zo,Zp,Zq,Zv,Zy,Z0,Z6,Z9,Qb,Qc,Qd,Qe,Qf,Qj,Qq,Qr,Qs,Q1,Q2,Q4,Q5,Q6,Q8,Jf,Jj,Jl,Jx,Jy,Jz,J0,J5,J6,J8,J9,Xb,Xc,Xf,Xt,Xu,Xv,X3,X4,X5,X6,X7,X8,Wc,Wd,We,Wf,Wg,Wh,Wi,Wj,Wp,Wq,Wr,Ws,Wt,Wu,Wv,Ww,Wx,Wz,W0,W4,W5,Ya,Yb,Yd,Ye,Yf,Yi,Yj,Ym,Yy,Y0,Y1,Y3,Y6,Y7,Y8,Vc,Vj,Vk,Vo,Vp,Vr,Vt,Vu,Vy,V4,Uk,Ul,Um,Un,Uo,Up,Uq,U8,Ku,Kq,Kc,U4,Kr,U3,My,Kb,Gg]
             tactic =>
              try simp only [U1] at *
              try simp only [nc2] at *
              try simp (maxSteps := 4000000) only [hlb,hsl,q1,ht1,tz,htp,hf,Uw,Uz,Uy,Ux,szV,Uu,Us,Uv,Ur,szN,Ut,U9]
              repeat' (first | with_reducible assumption | with_reducible refine And.intro ?_ ?_ | intro _ | omega | (rw [U0]; omega))
              all_goals first
                | (with_reducible refine Kl ?_; kernel_rfl)
                | omega
                | exact ⟨_, g1⟩
                | exact g3
                | exact hp7
                | exact hpp
                | exact ⟨k + 1, by ((try simp only [U2, Ka, U6, Kg, upd, Kh, Ko, Gd, Nat.reduceDiv, Nat.reduceMod, Nat.reduceMul, Nat.reduceAdd, Nat.reduceEqDiff, List.set_cons_zero, List.set_cons_succ, if_true, if_false, reduceIte]); (first | refine Wk.of_fl ?_ | skip); simp only [Wk, wkK, Gl, wkT, wk1, AV.kept, keptAll, wkO, lk, U5, and_true, true_and, and_self, Nat.reduceEqDiff, Nat.reduceLeDiff, if_true, if_false, reduceIte, reduceCtorEq, Option.isSome, false_implies]; try simp [Wk, wkK, wkT, wk1, AV.kept, keptAll, wkO, lk, U5]), by omega, hst, by omega⟩
                | skip)
        · rw [T2 fun j hj => hno j (by omega)] at hR2
          subst hR2
          (sym =>
           simp [hlb,hsl,hx1,hy1,hR,Uw,Uz,Uy,Ux,szV,Uu,Us,Uv,Ur,szN,Ut,Hn,Nz,Zb,Zc,Ze,Zf,Zg,Zo,Z6,Qb,Qd,Qn,Qo,Qp,Qq,Qs,Q1,Q2,Q4,Q8,Jk,Jy,Jz,J0,J5,J6,J8,J9,Xb,Xc,Xf,X4,X6,X7,Wa,Wb,Wc,Wf,Wh,Wi,Wj,Wt,Wu,Wv,Ww,Ya,Yb,Yd,Ye,Yi,Y0,Y1,Y6,Y7,Y8,Vt,Vu,V5,Ul,Um,Un,Uo,Up,U8,Ku,Kq,Kc,U4,Kr,U3,My,Kb,Gg]))
  | false =>
  rw [t0, cond_false] at hR2
  cases t5 : (p.kind == 5) with
  | true =>
    rw [t5, cond_true] at hR2
    (sym =>
     simp [hx1,hy1,hk9,ev,et,hR,t0,t5,Hh.eq_def,Uw,Uz,Uy,Ux,szV,Uu,Us,Uv,Ur,szN,Ut,Hn,Nn,Nz,Np,Hc.eq_def,K3.eq_def,Kj.eq_def,Ge.eq_def,Kn.eq_def,Kt.eq_def,Kk.eq_def,Zb,Zc,Zd,Ze,Zf,Zg,Zo,Zp,Zq,Zs,Zt,Zu,Zv,Zw,Zx,Zy,Z8,Z9,Qb,Qd,Qe,Qf,Qg,Qh,Qk,Ql,Qm,Qn,Qo,Qp,Qq,Qs,Q1,Q2,Q4,Q8,Q9,Ja,Jf,Jh,Ji,Jj,Jk,Jl,Jw,J3,J4,J5,J6,J8,J9,Xb,Xc,Xf,Xn,Xo,Xp,Xr,Xs,Xt,Xu,Xv,X4,X6,X7,X8,Wb,Wc,Wf,Wh,Wi,Wj,Wm,Wt,Wu,Wv,Ww,Wx,Wy,Wz,W0,W4,W5,W6,W7,W8,W9,Ya,Yb,Ye,Yi,Ym,Yq,Yt,Yw,Yx,Yy,Y0,Y1,Y7,Y8,Vb,Vc,Vd,Ve,Vf,Vg,Vj,Vk,Vl,Vo,Vs,Vt,Vu,V4,V5,Uk,Ul,Um,Un,Uo,Up,Uq,U8,Ku,Kq,Kc,U4,Kr,U3,My,Kb,Gg]
     tactic =>
      try simp only [U1] at *
      try simp only [nc2] at *
      try simp (maxSteps := 4000000) only [hx1,hy1,hk9,ev,et,hR,t0,t5,Hh.eq_def,Uw,Uz,Uy,Ux,szV,Uu,Us,Uv,Ur,szN,Ut,U9]
      repeat' (first | with_reducible assumption | with_reducible refine And.intro ?_ ?_ | intro _ | omega | (rw [U0]; omega))
      all_goals first
        | (with_reducible refine Kl ?_; kernel_rfl)
        | omega
        | (rw [← hR2]; clear hR2 hR; simp_all; done)
        | skip)
  | false =>
  rw [t5, cond_false] at hR2
  cases t6 : (p.kind == 6) with
  | true =>
    rw [t6, cond_true] at hR2
    cases hlabs : (m.kind == 4 && Le ks == N3 qs) with
    | false =>
      rw [hlabs, Bool.false_and] at hR2
      subst hR2
      (sym =>
       simp [hx1,hy1,hk9,ev,et,hR,t0,t5,t6,k7,hks,hrv,hlabs,Hh.eq_def,Uw,Uz,Uy,Ux,szV,Uu,Us,Uv,Ur,szN,Ut,Hn,Nn,Nz,Np,Hc.eq_def,K3.eq_def,Kj.eq_def,Ge.eq_def,Kn.eq_def,Kt.eq_def,Kk.eq_def,Zb,Zc,Ze,Zf,Zg,Zo,Zp,Zq,Zs,Zu,Zv,Zw,Zx,Zy,Z8,Z9,Qb,Qc,Qd,Qe,Qf,Qg,Qh,Qk,Ql,Qn,Qo,Qp,Qq,Qs,Q1,Q2,Q4,Q8,Q9,Ja,Jf,Jh,Ji,Jj,Jk,Jl,Jw,J3,J4,J5,J6,J8,J9,Xb,Xc,Xf,Xn,Xo,Xp,Xr,Xs,Xt,Xu,Xv,X4,X6,X7,X8,Wb,Wc,Wf,Wh,Wi,Wj,Wm,Wt,Wu,Wv,Ww,Wx,Wy,Wz,W0,W4,W5,W6,W7,W8,Ya,Yb,Ye,Yf,Yi,Yj,Ym,Yq,Yt,Yw,Yx,Yy,Y0,Y1,Y7,Y8,Vb,Vc,Vd,Ve,Vf,Vg,Vj,Vo,Vq,Vs,Vt,Vu,V4,V5,Uk,Ul,Um,Un,Uo,Up,Uq,U8,Ku,Kq,Kc,U4,Kr,U3,My,Kb,Gg]
       tactic =>
        try simp only [U1] at *
        try simp only [nc2] at *
        try simp (maxSteps := 4000000) only [hx1,hy1,hk9,ev,et,hR,t0,t5,t6,k7,hks,hrv,hlabs,Hh.eq_def,Uw,Uz,Uy,Ux,szV,Uu,Us,Uv,Ur,szN,Ut,U9]
        repeat' (first | with_reducible assumption | with_reducible refine And.intro ?_ ?_ | intro _ | omega | (rw [U0]; omega))
        all_goals first
          | exact hT7'
          | exact hxo
          | omega
          | skip)
    | true =>
      rw [hlabs, Bool.true_and, Ir] at hR2
      have hleq : ks.length = qs.length := by
        rw [Bool.and_eq_true, beq_iff_eq, beq_iff_eq] at hlabs
        rw [← Bv (ks := ks), hlabs.2, Hd]
      obtain ⟨P, hP⟩ : ∃ P : Nat → Bool, P = fun j => fits9 (ks.getD j dv) ((qs.map M2).getD j Gu) := ⟨_, rfl⟩
      rw [← hP] at hR2
      (sym =>
       simp [hx1,hy1,hk9,ev,et,t0,t5,t6,k7,hks,hrv,hlabs,Hh.eq_def,Uw,Uz,Uy,Ux,szV,Uu,Us,Uv,Ur,szN,Ut,Hn,Nn,Nz,Np,Hc.eq_def,K3.eq_def,Kj.eq_def,Ge.eq_def,Kn.eq_def,Kt.eq_def,Kk.eq_def,Zb,Zc,Ze,Zf,Zo,Zp,Zq,Zs,Zu,Zv,Zw,Zx,Zy,Z8,Z9,Qb,Qc,Qd,Qe,Qf,Qg,Qh,Qk,Ql,Qq,Qs,Q1,Q2,Q4,Q8,Q9,Ja,Jf,Jh,Ji,Jj,Jl,Jw,J3,J4,J5,J6,J8,J9,Xb,Xc,Xf,Xn,Xo,Xp,Xr,Xs,Xt,Xu,Xv,X3,X4,X6,X7,X8,X9,Wc,Wf,Wh,Wi,Wj,Wm,Wt,Wu,Wv,Ww,Wx,Wy,Wz,W0,W4,W5,W6,W7,W8,Ya,Yb,Ye,Yf,Yi,Yj,Ym,Yq,Yt,Yw,Yx,Yy,Y0,Y1,Y7,Y8,Vb,Vc,Vd,Ve,Vf,Vg,Vj,Vo,Vp,Vs,Vt,Vu,V4,V5,Uk,Ul,Um,Un,Uo,Up,Uq,U8,Ku,Kq,Kc,U4,Kr,U3,My,Kb,Gg]
       tactic =>
        try simp only [U1] at *
        try simp only [nc2] at *
        try simp (maxSteps := 4000000) only [hx1,hy1,hk9,ev,et,t0,t5,t6,k7,hks,hrv,hlabs,Hh.eq_def,Uw,Uz,Uy,Ux,szV,Uu,Us,Uv,Ur,szN,Ut,U9]
        repeat' (first | with_reducible assumption | with_reducible refine And.intro ?_ ?_ | intro _ | omega | (rw [U0]; omega))
        refine Km [4, 80, 81, 82, 83, 84, 85, 86, 87, 88, 89, 90, 91, 92, 93, 94, 95] (fun k : Nat => [(12, .d (.int .i64 k))]) (fun k : Nat => []) (fun k : Nat => k ≤ ks.length ∧ ∀ j, j < k → P j = true) (fun k : Nat => ks.length - k) 0 ?_ ?_ ?_
        · simp
        · ((try simp only [U2, Ka, U6, Kg, upd, Kh, Ko, Gd, Nat.reduceDiv, Nat.reduceMod, Nat.reduceMul, Nat.reduceAdd, Nat.reduceEqDiff, List.set_cons_zero, List.set_cons_succ, if_true, if_false, reduceIte]); (first | refine Wk.of_fl ?_ | skip); simp only [Wk, wkK, Gl, wkT, wk1, AV.kept, keptAll, wkO, lk, U5, and_true, true_and, and_self, Nat.reduceEqDiff, Nat.reduceLeDiff, if_true, if_false, reduceIte, reduceCtorEq, Option.isSome, false_implies]; try simp [Wk, wkK, wkT, wk1, AV.kept, keptAll, wkO, lk, U5])
        rintro k ⟨hk, hno⟩
        rcases Ks k qs.length with ⟨hlt, hlb⟩ | ⟨hlt, hlb⟩
        · have hlk : k < ks.length := by omega
          have q1 := Kf (⟨[]⟩ : Sl VNode) (show k < (sls ks).length by omega)
          rw [O6 hlk] at q1
          have q2 := Kf (⟨[]⟩ : Sl Node) (show k < (Na qs).length by omega)
          rw [parts_at hlt] at q2
          have hPk : P k = fits9 ks[k] (M2 (qs.getD k (mk n0 []))) := by rw [hP]; simp [hlk, hlt]
          obtain ⟨u1, u2, u3, u4⟩ := h7s hlt
          have g1 := hsub hlk
          have g2 := hlen hlk
          have g3 := fun m hm => hS m (hmem hlk m hm)
          obtain ⟨z, hz⟩ : ∃ z, ks[k] = z := ⟨_, rfl⟩
          rw [hz] at q1 g1 g2 g3 hPk
          have tz := g1.tree
          cases hf : fits9 z (M2 (qs.getD k (mk n0 []))) with
          | false =>
            rw [hf] at hPk
            rw [Cq k hlk hPk] at hR2
            subst hR2
            (sym =>
             simp [hlb,hsl,hpl,q1,q2,tz,u4,hf,hx1,hy1,hR,Uw,Uz,Uy,Ux,szV,Uu,Us,Uv,Ur,szN,Ut,Hn,Nn,Nz,Np,Lk,Hc.eq_def,K3.eq_def,Kj.eq_def,Ge.eq_def,Kn.eq_def,Kt.eq_def,Kk.eq_def,Zb,Zc,Ze,Zf,Zg,Zh,Zi,Zj,Zk,Zl,Zm,Zo,Zp,Zq,Zv,Zy,Z6,Z9,Qb,Qc,Qd,Qe,Qf,Qn,Qo,Qp,Qq,Qr,Qs,Q1,Q2,Q4,Q5,Q6,Q8,Jf,Jj,Jk,Jl,Jy,Jz,J0,J5,J6,J8,J9,Xb,Xc,Xf,Xt,Xu,Xv,X3,X4,X5,X6,X7,X8,Wb,Wc,Wd,We,Wf,Wg,Wh,Wi,Wj,Wp,Wq,Wr,Ws,Wt,Wu,Wv,Ww,Wx,Wz,W0,W4,W5,Ya,Yb,Yd,Ye,Yf,Yi,Yj,Ym,Yy,Y0,Y1,Y3,Y6,Y7,Y8,Vc,Vj,Vo,Vq,Vr,Vt,Vu,V5,Uk,Ul,Um,Un,Uo,Up,Uq,U8,Ku,Kq,Kc,U4,Kr,U3,My,Kb,Gg]
             tactic =>
              try simp only [U1] at *
              try simp only [nc2] at *
              try simp (maxSteps := 4000000) only [hlb,hsl,hpl,q1,q2,tz,u4,hf,hx1,hy1,hR,Uw,Uz,Uy,Ux,szV,Uu,Us,Uv,Ur,szN,Ut,U9]
              repeat' (first | with_reducible assumption | with_reducible refine And.intro ?_ ?_ | intro _ | omega | (rw [U0]; omega))
              all_goals first
                | (with_reducible refine Kl ?_; kernel_rfl)
                | omega
                | exact ⟨_, g1⟩
                | exact g3
                | exact u1
                | exact u2
                | skip)
          | true =>
            rw [hf] at hPk
            have hst : ∀ j, j < k + 1 → P j = true := by
              intro j hj
              by_cases hjk : j = k
              · subst hjk; exact hPk
              · exact hno j (by omega)
            (sym =>
             simp [hlb,hsl,hpl,q1,q2,tz,u4,hf,Uw,Uz,Uy,Ux,szV,Uu,Us,Uv,Ur,szN,Ut,Hn,Nn,Np,Lk,Hc.eq_def,K3.eq_def,Kj.eq_def,Ge.eq_def,Kn.eq_def,Kt.eq_def,Kk.eq_def,Zb,Zc,Ze,Zf,Zg,Zh,Zi,Zj,Zk,Zl,Zm,Zo,Zp,Zq,Zv,Zy,Z6,Z9,Qb,Qc,Qd,Qe,Qf,Qq,Qr,Qs,Q1,Q2,Q4,Q5,Q6,Q8,Jf,Jj,Jl,Jy,Jz,J0,J5,J6,J8,J9,Xb,Xc,Xf,Xt,Xu,Xv,X3,X4,X5,X6,X7,X8,Wc,Wd,We,Wf,Wg,Wh,Wi,Wj,Wp,Wq,Wr,Ws,Wt,Wu,Wv,Ww,Wx,Wz,W0,W4,W5,Ya,Yb,Yd,Ye,Yf,Yi,Yj,Ym,Yy,Y0,Y1,Y3,Y6,Y7,Y8,Vc,Vj,Vo,Vp,Vr,Vt,Vu,V4,Uk,Ul,Um,Un,Uo,Up,Uq,U8,Ku,Kq,Kc,U4,Kr,U3,My,Kb,Gg]
             tactic =>
              try simp only [U1] at *
              try simp only [nc2] at *
              try simp (maxSteps := 4000000) only [hlb,hsl,hpl,q1,q2,tz,u4,hf,Uw,Uz,Uy,Ux,szV,Uu,Us,Uv,Ur,szN,Ut,U9]
              repeat' (first | with_reducible assumption | with_reducible refine And.intro ?_ ?_ | intro _ | omega | (rw [U0]; omega))
              all_goals first
                | (with_reducible refine Kl ?_; kernel_rfl)
                | omega
                | exact ⟨_, g1⟩
                | exact g3
                | exact u1
                | exact u2
                | exact ⟨k + 1, by ((try simp only [U2, Ka, U6, Kg, upd, Kh, Ko, Gd, Nat.reduceDiv, Nat.reduceMod, Nat.reduceMul, Nat.reduceAdd, Nat.reduceEqDiff, List.set_cons_zero, List.set_cons_succ, if_true, if_false, reduceIte]); (first | refine Wk.of_fl ?_ | skip); simp only [Wk, wkK, Gl, wkT, wk1, AV.kept, keptAll, wkO, lk, U5, and_true, true_and, and_self, Nat.reduceEqDiff, Nat.reduceLeDiff, if_true, if_false, reduceIte, reduceCtorEq, Option.isSome, false_implies]; try simp [Wk, wkK, wkT, wk1, AV.kept, keptAll, wkO, lk, U5]), by omega, hst, by omega⟩
                | skip)
        · rw [T2 fun j hj => hno j (by omega)] at hR2
          subst hR2
          (sym =>
           simp [hlb,hsl,hpl,hx1,hy1,hR,Uw,Uz,Uy,Ux,szV,Uu,Us,Uv,Ur,szN,Ut,Hn,Nz,Zb,Zc,Ze,Zf,Zg,Zo,Z6,Qb,Qd,Qn,Qo,Qp,Qq,Qs,Q1,Q2,Q4,Q8,Jk,Jy,Jz,J0,J5,J6,J8,J9,Xb,Xc,Xf,X4,X6,X7,Wa,Wb,Wc,Wf,Wh,Wi,Wj,Wt,Wu,Wv,Ww,Ya,Yb,Yd,Ye,Yi,Y0,Y1,Y6,Y7,Y8,Vt,Vu,V5,Ul,Um,Un,Uo,Up,U8,Ku,Kq,Kc,U4,Kr,U3,My,Kb,Gg]))
  | false =>
  rw [t6, cond_false] at hR2
  cases t7 : (p.kind == 7) with
  | true =>
    rw [t7, cond_true] at hR2
    (sym =>
     simp [hx1,hy1,hk9,ev,et,t0,t5,t6,t7,k7,Hh.eq_def,Uw,Uz,Uy,Ux,szV,Uu,Us,Uv,Ur,szN,Ut,Hn,Nn,Nz,Np,Hc.eq_def,K3.eq_def,Kj.eq_def,Ge.eq_def,Kn.eq_def,Kt.eq_def,Kk.eq_def,Zb,Zc,Ze,Zf,Zo,Zp,Zq,Zs,Zu,Zv,Zw,Zx,Zy,Z8,Z9,Qb,Qd,Qe,Qf,Qg,Qh,Qk,Ql,Qq,Qs,Q1,Q2,Q4,Q8,Q9,Ja,Jf,Jh,Ji,Jj,Jl,Jw,J3,J4,J5,J6,J8,J9,Xb,Xc,Xf,Xn,Xo,Xp,Xr,Xs,Xt,Xu,Xv,X4,X6,X7,X8,X9,Wc,Wf,Wh,Wi,Wj,Wm,Wt,Wu,Wv,Ww,Wx,Wy,Wz,W0,W4,W5,W6,W7,W8,Ya,Yb,Ye,Yi,Ym,Yq,Yt,Yw,Yx,Yy,Y0,Y1,Y7,Y8,Vb,Vc,Vd,Ve,Vf,Vg,Vj,Vo,Vs,Vt,Vu,V4,V5,Uk,Ul,Um,Un,Uo,Up,Uq,U8,Ku,Kq,Kc,U4,Kr,U3,My,Kb,Gg]
     tactic =>
      try simp only [U1] at *
      try simp only [nc2] at *
      try simp (maxSteps := 4000000) only [hx1,hy1,hk9,ev,et,t0,t5,t6,t7,k7,Hh.eq_def,Uw,Uz,Uy,Ux,szV,Uu,Us,Uv,Ur,szN,Ut,U9]
      repeat' (first | with_reducible assumption | with_reducible refine And.intro ?_ ?_ | intro _ | omega | (rw [U0]; omega))
      refine Km [4, 103, 104, 105, 106, 107, 108, 109, 110, 111, 112, 113, 114, 115, 116, 117, 118, 119, 120, 121, 122, 123, 124, 125, 126, 127, 128] (fun k : Nat => [(15, .d (.int .i64 k))]) (fun k : Nat => []) (fun k : Nat => k ≤ qs.length ∧ ∀ j (h : j < qs.length), j < k → tagP m qs[j] = false) (fun k : Nat => qs.length - k) 0 ?_ ?_ ?_
      · simp
      · ((try simp only [U2, Ka, U6, Kg, upd, Kh, Ko, Gd, Nat.reduceDiv, Nat.reduceMod, Nat.reduceMul, Nat.reduceAdd, Nat.reduceEqDiff, List.set_cons_zero, List.set_cons_succ, if_true, if_false, reduceIte]); (first | refine Wk.of_fl ?_ | skip); simp only [Wk, wkK, Gl, wkT, wk1, AV.kept, keptAll, wkO, lk, U5, and_true, true_and, and_self, Nat.reduceEqDiff, Nat.reduceLeDiff, if_true, if_false, reduceIte, reduceCtorEq, Option.isSome, false_implies]; try simp [Wk, wkK, wkT, wk1, AV.kept, keptAll, wkO, lk, U5])
      rintro k ⟨hk, hno⟩
      rcases Ks k qs.length with ⟨hlt, hlb⟩ | ⟨hlt, hlb⟩
      · have q2 := Kf (⟨[]⟩ : Sl Node) (show k < (Na qs).length by omega)
        rw [parts_at hlt] at q2
        have q3 := Kf ([] : List UInt8) (show k < (N3 qs).length by omega)
        rw [kid_name hlt] at q3
        have hst : tagP m qs[k] = false → ∀ j (h : j < qs.length), j < k + 1 → tagP m qs[j] = false := by
          intro h j hj1 hj
          by_cases hjk : j = k
          · subst hjk; exact h
          · exact hno j hj1 (by omega)
        have hhit : tagP m qs[k] = true → fits9s ks [M2 (qs.getD k (mk n0 []))] = R := by
          intro h
          rw [findIdx_hit hlt h hno] at hR2
          exact hR2
        obtain ⟨u1, u2, u3, u4⟩ := h7s hlt
        obtain ⟨b, hb⟩ : ∃ b, qs[k] = b := ⟨_, rfl⟩
        rw [hb] at q3 hst hhit
        cases k5 : (m.kind == 5) with
        | false =>
          have hs2 := hst (by unfold tagP; rw [k5]; rfl)
          (sym =>
           simp [hlb,hsl,hpl,hll,q2,q3,k5,Uw,Uz,Uy,Ux,szV,Uu,Us,Uv,Ur,szN,Ut,Hn,Nn,Np,Lk,Hc.eq_def,K3.eq_def,Kj.eq_def,Ge.eq_def,Kn.eq_def,Kt.eq_def,Kk.eq_def,Zb,Zc,Zd,Ze,Zf,Zg,Zh,Zi,Zj,Zk,Zl,Zm,Zo,Zp,Zq,Zs,Zt,Zv,Zx,Z6,Qb,Qd,Qm,Qq,Qr,Qs,Q1,Q2,Q4,Q5,Q6,Jh,Jy,Jz,J0,J5,J6,J8,J9,Xa,Xb,Xc,Xt,Xu,Xv,X3,X4,X5,X6,X7,X8,Wc,Wd,We,Wf,Wg,Wh,Wi,Wj,Wp,Wt,Wu,Wv,Ww,W4,W5,W6,W7,W8,W9,Ya,Yb,Yd,Ye,Yi,Y0,Y1,Y6,Y7,Y8,Y9,Vt,Vu,V4,V5,Uk,Ul,Um,Un,Uo,Up,Uq,U8,Ku,Kq,Kc,U4,Kr,U3,My,Kb,Gg]
           tactic =>
            try simp only [U1] at *
            try simp only [nc2] at *
            try simp (maxSteps := 4000000) only [hlb,hsl,hpl,hll,q2,q3,k5,Uw,Uz,Uy,Ux,szV,Uu,Us,Uv,Ur,szN,Ut,U9]
            repeat' (first | with_reducible assumption | with_reducible refine And.intro ?_ ?_ | intro _ | omega | (rw [U0]; omega))
            all_goals first
              | (with_reducible refine Kl ?_; kernel_rfl)
              | omega
              | exact ⟨k + 1, by ((try simp only [U2, Ka, U6, Kg, upd, Kh, Ko, Gd, Nat.reduceDiv, Nat.reduceMod, Nat.reduceMul, Nat.reduceAdd, Nat.reduceEqDiff, List.set_cons_zero, List.set_cons_succ, if_true, if_false, reduceIte]); (first | refine Wk.of_fl ?_ | skip); simp only [Wk, wkK, Gl, wkT, wk1, AV.kept, keptAll, wkO, lk, U5, and_true, true_and, and_self, Nat.reduceEqDiff, Nat.reduceLeDiff, if_true, if_false, reduceIte, reduceCtorEq, Option.isSome, false_implies]; try simp [Wk, wkK, wkT, wk1, AV.kept, keptAll, wkO, lk, U5]), by omega, hs2, by omega⟩
              | skip)
        | true =>
          cases knm : (m.name == b.root.name) with
          | false =>
            have hs2 := hst (by unfold tagP; rw [k5, knm]; rfl)
            (sym =>
             simp [hlb,hsl,hpl,hll,q2,q3,k5,knm,Uw,Uz,Uy,Ux,szV,Uu,Us,Uv,Ur,szN,Ut,Hn,Nn,Np,Lk,Hc.eq_def,K3.eq_def,Kj.eq_def,Ge.eq_def,Kn.eq_def,Kt.eq_def,Kk.eq_def,Zb,Zc,Zd,Ze,Zf,Zg,Zh,Zi,Zj,Zk,Zl,Zm,Zo,Zp,Zq,Zs,Zt,Zv,Zx,Zy,Z6,Qb,Qd,Qm,Qq,Qr,Qs,Q1,Q2,Q4,Q5,Q6,Jh,Jy,Jz,J0,J5,J6,J8,J9,Xa,Xb,Xc,Xt,Xu,Xv,X3,X4,X5,X6,X7,X8,Wc,Wd,We,Wf,Wg,Wh,Wi,Wj,Wp,Wt,Wu,Wv,Ww,W4,W5,W6,W7,W8,W9,Ya,Yb,Yd,Ye,Yg,Yi,Yk,Ym,Yu,Yz,Y0,Y1,Y5,Y6,Y7,Y8,Y9,Vr,Vt,Vu,V4,V5,Uk,Ul,Um,Un,Uo,Up,Uq,U8,Ku,Kq,Kc,U4,Kr,U3,My,Kb,Gg]
             tactic =>
              try simp only [U1] at *
              try simp only [nc2] at *
              try simp (maxSteps := 4000000) only [hlb,hsl,hpl,hll,q2,q3,k5,knm,Uw,Uz,Uy,Ux,szV,Uu,Us,Uv,Ur,szN,Ut,U9]
              repeat' (first | with_reducible assumption | with_reducible refine And.intro ?_ ?_ | intro _ | omega | (rw [U0]; omega))
              all_goals first
                | (with_reducible refine Kl ?_; kernel_rfl)
                | omega
                | exact ⟨k + 1, by ((try simp only [U2, Ka, U6, Kg, upd, Kh, Ko, Gd, Nat.reduceDiv, Nat.reduceMod, Nat.reduceMul, Nat.reduceAdd, Nat.reduceEqDiff, List.set_cons_zero, List.set_cons_succ, if_true, if_false, reduceIte]); (first | refine Wk.of_fl ?_ | skip); simp only [Wk, wkK, Gl, wkT, wk1, AV.kept, keptAll, wkO, lk, U5, and_true, true_and, and_self, Nat.reduceEqDiff, Nat.reduceLeDiff, if_true, if_false, reduceIte, reduceCtorEq, Option.isSome, false_implies]; try simp [Wk, wkK, wkT, wk1, AV.kept, keptAll, wkO, lk, U5]), by omega, hs2, by omega⟩
                | skip)
          | true =>
            have hh := hhit (by unfold tagP; rw [k5, knm]; rfl)
            have hk1b := hk1 (by simpa using k5)
            have h0 : 0 < ks.length := by omega
            have q1 := Kf (⟨[]⟩ : Sl VNode) (show 0 < (sls ks).length by omega)
            rw [O6 h0] at q1
            have g1 := hsub h0
            have g2 := hlen h0
            have g3 := fun m hm => hS m (hmem h0 m hm)
            have hh2 : fits9 ks[0] (M2 (qs.getD k (mk n0 []))) = R := by
              rw [← hh, Ir, hk1b]
              simp [h0]
            obtain ⟨z, hz⟩ : ∃ z, ks[0] = z := ⟨_, rfl⟩
            rw [hz] at q1 g1 g2 g3 hh2
            have tz := g1.tree
            (sym =>
             simp [hlb,hsl,hpl,hll,q1,q2,q3,k5,knm,tz,u4,hh2,hx1,hy1,hR,Uw,Uz,Uy,Ux,szV,Uu,Us,Uv,Ur,szN,Ut,Hn,Nn,Nz,Np,Lk,Hc.eq_def,K3.eq_def,Kj.eq_def,Ge.eq_def,Kn.eq_def,Kt.eq_def,Kk.eq_def,Zb,Zc,Zd,Ze,Zf,Zg,Zh,Zi,Zj,Zk,Zl,Zm,Zo,Zp,Zq,Zs,Zt,Zv,Zx,Zy,Z6,Z9,Qb,Qd,Qe,Qf,Qm,Qn,Qo,Qp,Qq,Qr,Qs,Q1,Q2,Q4,Q5,Q6,Q8,Jf,Jh,Jj,Jk,Jl,Jy,Jz,J0,J5,J6,J7,J8,J9,Xa,Xb,Xc,Xf,Xt,Xu,Xv,X3,X4,X5,X6,X7,X8,Wb,Wc,Wd,We,Wf,Wg,Wh,Wi,Wj,Wp,Wq,Wr,Ws,Wt,Wu,Wv,Ww,Wx,Wz,W0,W4,W5,W6,W7,W8,W9,Ya,Yb,Yd,Ye,Yg,Yi,Yk,Ym,Yu,Yy,Yz,Y0,Y1,Y3,Y5,Y6,Y7,Y8,Y9,Vc,Vj,Vo,Vr,Vs,Vt,Vu,V4,V5,Uk,Ul,Um,Un,Uo,Up,Uq,U8,Ku,Kq,Kc,U4,Kr,U3,My,Kb,Gg]
             tactic =>
              try simp only [U1] at *
              try simp only [nc2] at *
              try simp (maxSteps := 4000000) only [hlb,hsl,hpl,hll,q1,q2,q3,k5,knm,tz,u4,hh2,hx1,hy1,hR,Uw,Uz,Uy,Ux,szV,Uu,Us,Uv,Ur,szN,Ut,U9]
              repeat' (first | with_reducible assumption | with_reducible refine And.intro ?_ ?_ | intro _ | omega | (rw [U0]; omega))
              all_goals first
                | (with_reducible refine Kl ?_; kernel_rfl)
                | omega
                | exact ⟨_, g1⟩
                | exact g3
                | exact u1
                | exact u2
                | skip)
      · rw [findIdx_miss fun j hj => hno j hj (by omega)] at hR2
        subst hR2
        (sym =>
         simp [hlb,hsl,hpl,hll,hx1,hy1,hR,Uw,Uz,Uy,Ux,szV,Uu,Us,Uv,Ur,szN,Ut,Hn,Nz,Zb,Zc,Ze,Zf,Zg,Zo,Z6,Qb,Qd,Qn,Qo,Qp,Qq,Qs,Q1,Q2,Q4,Q8,Jk,Jy,Jz,J0,J5,J6,J8,J9,Xa,Xb,Xc,Xf,X4,X6,X7,Wa,Wb,Wc,Wf,Wh,Wi,Wj,Wt,Wu,Wv,Ww,Ya,Yb,Yd,Ye,Yi,Y0,Y1,Y6,Y7,Y8,Y9,Vt,Vu,V5,Ul,Um,Un,Uo,Up,U8,Ku,Kq,Kc,U4,Kr,U3,My,Kb,Gg]))
  | false =>
  rw [t7, cond_false] at hR2
  (sym =>
   simp [hx1,hy1,hk9,ev,et,hR,t0,t5,t6,t7,Hh.eq_def,Uw,Uz,Uy,Ux,szV,Uu,Us,Uv,Ur,szN,Ut,Hn,Nn,Nz,Np,Hc.eq_def,K3.eq_def,Kj.eq_def,Ge.eq_def,Kn.eq_def,Kt.eq_def,Kk.eq_def,Zb,Zc,Zd,Ze,Zf,Zg,Zo,Zp,Zq,Zs,Zt,Zu,Zv,Zw,Zx,Zy,Z8,Z9,Qb,Qd,Qe,Qf,Qg,Qh,Qk,Ql,Qn,Qo,Qp,Qq,Qs,Q1,Q2,Q4,Q8,Q9,Ja,Jf,Jh,Ji,Jj,Jk,Jl,Jw,J3,J4,J5,J6,J7,J8,J9,Xa,Xb,Xc,Xf,Xn,Xo,Xp,Xr,Xs,Xt,Xu,Xv,X3,X4,X6,X7,X8,Wb,Wc,Wf,Wh,Wi,Wj,Wm,Wt,Wu,Wv,Ww,Wx,Wy,Wz,W0,W4,W5,W6,W7,W8,W9,Ya,Yb,Ye,Yi,Ym,Yq,Yt,Yw,Yx,Yy,Y0,Y1,Y7,Y8,Y9,Va,Vb,Vc,Vd,Ve,Vf,Vg,Vj,Vo,Vs,Vt,Vu,V4,V5,Uk,Ul,Um,Un,Uo,Up,Uq,U8,Ku,Kq,Kc,U4,Kr,U3,My,Kb,Gg]
   tactic =>
    try simp only [U1] at *
    try simp only [nc2] at *
    try simp (maxSteps := 4000000) only [hx1,hy1,hk9,ev,et,hR,t0,t5,t6,t7,Hh.eq_def,Uw,Uz,Uy,Ux,szV,Uu,Us,Uv,Ur,szN,Ut,U9]
    repeat' (first | with_reducible assumption | with_reducible refine And.intro ?_ ?_ | intro _ | omega | (rw [U0]; omega))
    all_goals first
      | omega
      | (rw [← hR2]; clear hR2 hR; simp_all; done)
      | skip)
theorem goodn_Fits19 : ∀ n, Gj Tryz.prog (6, Hc n)
  | 0 => Ev (U7 Tryz.func6 (by kernel_rfl) rfl) con_Fits19_zero
  | n + 1 => step_Fits19 n (goodn_Fits19 n)
end Go.Am.Ty
set_option linter.unusedSimpArgs false
set_option linter.unusedVariables false
set_option maxHeartbeats 2000000
namespace Go.Am.Ty
open Go.Proofs Go.Rose Go.Rose.Rose
open Enc (enc dec)
noncomputable def Rc : Con := Hc 1000001
theorem good_Fits19A : Gj Tryz.prog (6, Rc) := goodn_Fits19 _
theorem Bt : Rc = Bg (fun (v : Sl VNode) (t : Sl Node) => v.l.length ≤ 1000000 ∧ (∃ x, Co v.l x) ∧ (∀ m ∈ v.l, L5 m) ∧ Bh t.l ∧ Nt t.l = true ∧ v.l.length < 1000001) (fun v t => fits9 (K1 arV v.l 0) (K1 ar t.l 0)) := rfl
end Go.Am.Ty
set_option linter.unusedSimpArgs false
set_option linter.unusedVariables false
namespace Go.Am.Ty
open Go.Proofs
open Enc (enc dec)
theorem all2_7 {p1 p2 p3 p4 p5 p6 p7 : D → Prop} {ds : List D} (h : All2 [p1, p2, p3, p4, p5, p6, p7] ds) : ∃ a b c d e f g, ds = [a, b, c, d, e, f, g] ∧ p1 a ∧ p2 b ∧ p3 c ∧ p4 d ∧ p5 e ∧ p6 f ∧ p7 g := by
  match ds, h with
  | [a, b, c, d, e, f, g], h => exact ⟨a, b, c, d, e, f, g, rfl, h.1, h.2.1, h.2.2.1, h.2.2.2.1, h.2.2.2.2.1, h.2.2.2.2.2.1, h.2.2.2.2.2.2.1⟩
def InN (n : VNode) : Prop := (n.label.length ≤ maxLen ∧ n.name.length ≤ maxLen) ∧ (n.t.length ≤ maxLen ∧ ∀ y ∈ n.t, y.name.length ≤ maxLen) ∧ n.u.length ≤ maxLen ∧ ∀ y ∈ n.u, y.name.length ≤ maxLen
theorem rdVNode : Rdt Tryz.prog 44 7 true VNode InN :=
  (rd_struct (ps := [_, _, _, _, _, _, _]) Tryz.underlying44 (by kernel_rfl) rfl ⟨rfl, by kernel_rfl, rdt_int Tryz.underlying3, rfl, by kernel_rfl, rdt_str Tryz.underlying9, rfl, by kernel_rfl, rdt_str Tryz.underlying9,
    rfl, by kernel_rfl, rdt_int Tryz.underlying2, rfl, by kernel_rfl, rdt_int Tryz.underlying3, rfl, by kernel_rfl, rdNodes, rfl, by kernel_rfl, rdNodes, trivial⟩).mono fun x h => by
    obtain ⟨ds, rfl, h⟩ := h
    obtain ⟨a, b, c, d, e, f, g, rfl, ⟨k, rfl, _⟩, ⟨s, rfl, hs⟩, ⟨n, rfl, hn⟩, ⟨i, rfl, _⟩, ⟨m, rfl, _⟩, ⟨⟨t⟩, rfl, ht⟩, ⟨⟨u⟩, rfl, hu⟩⟩ := all2_7 h
    exact ⟨⟨k, s, n, i, m, t, u⟩, rfl, ⟨hs, hn⟩, ht, hu⟩
theorem rdVNodes : Rdt Tryz.prog 23 1 false (Sl VNode) (fun a => a.l.length ≤ maxLen ∧ ∀ y ∈ a.l, InN y) := rdt_sl Tryz.underlying23 (by kernel_rfl) rfl (by decide) rdVNode
theorem inVal_of {a : Sl VNode} (h : a.l.length ≤ maxLen ∧ ∀ y ∈ a.l, InN y) : InVal a.l := by
  unfold maxLen InN at h
  refine ⟨by have := h.1; omega, fun n hn => ?_⟩
  obtain ⟨⟨h1, h2⟩, ⟨h3, h4⟩, h5, h6⟩ := h.2 n hn
  unfold maxLen at *
  exact ⟨⟨by omega, by omega⟩, ⟨by omega, fun y hy => by have := h4 y hy; omega⟩, by omega, fun y hy => by have := h6 y hy; omega⟩
theorem in_of {a : Sl Node} (h : a.l.length ≤ maxLen ∧ ∀ y ∈ a.l, y.name.length ≤ maxLen) : In a.l := by
  unfold maxLen at h
  exact ⟨by have := h.1; omega, fun n hn => by have := h.2 n hn; omega⟩
end Go.Am.Ty
set_option linter.unusedSimpArgs false
set_option linter.unusedVariables false
set_option maxHeartbeats 2000000
namespace Go.Am.Ty
open Go.Proofs Go.Rose Go.Rose.Rose
open Enc (enc dec)
theorem slsN_rep (k : Nat) : (Mc (List.replicate k Gu)).length = k := by rw [Lb, List.length_replicate]
def G8 : Con := Ss (fun (n : Int) => 0 ≤ n ∧ n ≤ 1000000) (fun n => Sl.mk (Mc (List.replicate n.toNat Gu)))
noncomputable def ctx_dyns19 : Ctx := ⟨tab, lkC [], 60, lkB [], [], false⟩
theorem ctx_dyns19_t : ctx_dyns19.τ = tab := rfl
theorem ctx_dyns19_d : ctx_dyns19.dp = 60 := rfl
theorem ctx_dyns19_w : ctx_dyns19.wr = false := rfl
set_option maxRecDepth 100000 in
theorem good_dyns19 : Gj Tryz.prog (61, G8) := by
  refine ⟨U7 Tryz.func61 (by kernel_rfl) rfl, ?_⟩
  have K : Ky Tryz.prog ctx_dyns19 := Kd K6 Ki (by simp) (by simp)
  obtain ⟨c, hc⟩ : ∃ c, Tryz.f61.body = some c := ⟨_, rfl⟩
  refine Ke K Tryz.func61 hc [.tmp 2] rfl 17 rfl (fun cvs hpre => ?_)
  change G8.pre cvs at hpre
  unfold G8 at hpre
  obtain ⟨n, rfl, h0, h1⟩ := Ha hpre
  obtain ⟨n, rfl⟩ : ∃ m : Nat, n = m := ⟨n.toNat, by omega⟩
  clear hpre
  simp only [Tryz.f61, Option.some.injEq] at hc
  subst hc
  (sym =>
   simp [Uu,Us,Uv,Ur,szN,Ut,ctx_dyns19_t,G8.eq_def,Za,Zb,Zc,Ze,Zf,Zn,Zo,Zr,Z1,Qq,Qs,Q1,Q2,Q4,Jb,Jc,Jd,Je,Jg,Jh,Ji,Jw,J3,J4,Xd,Xu,X4,X6,X8,X9,Wc,Wf,Wh,Wi,Wj,Wn,Wt,Wu,Wv,Ww,Wy,W0,W3,W5,W6,W7,Yx,Y7,Y8,Y9,Va,Vb,Vc,Vh,Vr,V4,V7,Um,Un,U8,U4,Kr,U3]
   tactic =>
    try simp only [U1] at *
    try simp only [nc2] at *
    try simp (maxSteps := 4000000) only [Uu,Us,Uv,Ur,szN,Ut,U9]
    repeat' (first | with_reducible assumption | with_reducible refine And.intro ?_ ?_ | intro _ | omega | (rw [U0]; omega))
    refine Km [6, 7, 8, 9, 10, 11, 12, 13, 14, 15] (fun k : Nat => [(3, .sl 5 ((Mc (List.replicate k Gu)).map (enc : Sl Node → D)).length), (4, .d (.int .i64 k))]) (fun k : Nat => [(5, .row 1 ((Mc (List.replicate k Gu)).map enc) 0)]) (fun k : Nat => k ≤ n) (fun k : Nat => n - k) 0 ?_ ?_ ?_
    · simp
    · ((try simp only [U2, Ka, U6, Kg, upd, Kh, Ko, Gd, Nat.reduceDiv, Nat.reduceMod, Nat.reduceMul, Nat.reduceAdd, Nat.reduceEqDiff, List.set_cons_zero, List.set_cons_succ, if_true, if_false, reduceIte]); (first | refine Wk.of_fl ?_ | skip); simp only [Wk, wkK, Gl, wkT, wk1, AV.kept, keptAll, wkO, lk, U5, and_true, true_and, and_self, Nat.reduceEqDiff, Nat.reduceLeDiff, if_true, if_false, reduceIte, reduceCtorEq, Option.isSome, false_implies]; try simp [Wk, wkK, wkT, wk1, AV.kept, keptAll, wkO, lk, U5, Mc])
    rintro k hk
    have hrl := slsN_rep k
    have hrl2 := slsN_rep (k + 1)
    have hsn : (Mc (List.replicate k Gu)).map (enc : Sl Node → D) ++ [.list 3 [.agg [.int .i64 0, .str [], .int .i64 0]]] = (Mc (List.replicate (k + 1) Gu)).map enc := by
      rw [List.replicate_succ', ← slsN_snoc]
      rfl
    rcases Ks k n with ⟨hlt, hlb⟩ | ⟨hlt, hlb⟩
    · (sym =>
       simp [hlb,hrl,hsn,Uu,Us,Uv,Ur,szN,Ut,ctx_dyns19_t,ctx_dyns19_d,ctx_dyns19_w,Zb,Zc,Ze,Zf,Zg,Zo,Zr,Z1,Z2,Z4,Z5,Qb,Qd,Qh,Ql,Qq,Qs,Q1,Q2,Q4,Q7,Ja,Jb,Jc,Jd,Je,Jg,Jh,Ji,Jy,Jz,J0,Xd,Xe,Xf,Xh,Xs,X3,X4,X6,X7,X8,Wc,Wf,Wh,Wi,Wj,Wl,Wm,Wn,Wt,Wu,Ww,W3,W4,W5,W6,W7,Yd,Ye,Yi,Yp,Yq,Y7,Y8,Y9,Va,Vt,V3,V4,V9,Uk,Um,Un,Uo,Up,U8,U4,Kr,U3]
       tactic =>
        try simp only [U1] at *
        try simp only [nc2] at *
        try simp (maxSteps := 4000000) only [hlb,hrl,hsn,Uu,Us,Uv,Ur,szN,Ut,U9]
        repeat' (first | with_reducible assumption | with_reducible refine And.intro ?_ ?_ | intro _ | omega | (rw [U0]; omega))
        all_goals first
          | omega
          | (refine ⟨k + 1, ?_, by omega, by omega⟩; ((try simp only [U2, Ka, U6, Kg, upd, Kh, Ko, Gd, Nat.reduceDiv, Nat.reduceMod, Nat.reduceMul, Nat.reduceAdd, Nat.reduceEqDiff, List.set_cons_zero, List.set_cons_succ, if_true, if_false, reduceIte]); (first | refine Wk.of_fl ?_ | skip); simp only [Wk, wkK, Gl, wkT, wk1, AV.kept, keptAll, wkO, lk, U5, and_true, true_and, and_self, Nat.reduceEqDiff, Nat.reduceLeDiff, if_true, if_false, reduceIte, reduceCtorEq, Option.isSome, false_implies]; try simp [Wk, wkK, wkT, wk1, AV.kept, keptAll, wkO, lk, U5, hrl, hrl2, hsn]); done)
          | (refine ⟨k + 1, ?_, by omega, by omega⟩; ((try simp only [U2, Ka, U6, Kg, upd, Kh, Ko, Gd, Nat.reduceDiv, Nat.reduceMod, Nat.reduceMul, Nat.reduceAdd, Nat.reduceEqDiff, List.set_cons_zero, List.set_cons_succ, if_true, if_false, reduceIte]); (first | refine Wk.of_fl ?_ | skip); simp only [Wk, wkK, Gl, wkT, wk1, AV.kept, keptAll, wkO, lk, U5, and_true, true_and, and_self, Nat.reduceEqDiff, Nat.reduceLeDiff, if_true, if_false, reduceIte, reduceCtorEq, Option.isSome, false_implies]; try simp [Wk, wkK, wkT, wk1, AV.kept, keptAll, wkO, lk, U5, hrl, hrl2, hsn]); exact hsn)
          | skip)
    · have hkl2 : k = n := by omega
      subst hkl2
      (sym =>
       simp [hlb,hrl,Int.toNat_natCast,Uu,Us,Uv,Ur,szN,Ut,ctx_dyns19_t,ctx_dyns19_d,Zb,Zc,Ze,Zf,Zg,Qb,Qd,Qn,Qo,Qp,Qq,Qs,Q1,Q2,Q4,Q8,Jh,Ji,Jk,Jy,Jz,J0,Xh,X4,X6,X7,Wa,Wb,Wc,Wf,Wh,Wi,Wt,Wu,Yd,Ye,Yi,Y7,Y8,Y9,Va,Vt,Ul,Um,Un,Up,U8,U4,Kr,U3]
       tactic =>
        try simp only [U1] at *
        try simp only [nc2] at *
        try simp (maxSteps := 4000000) only [hlb,hrl,Int.toNat_natCast,Uu,Us,Uv,Ur,szN,Ut,U9]
        repeat' (first | with_reducible assumption | with_reducible refine And.intro ?_ ?_ | intro _ | omega | (rw [U0]; omega))
        all_goals first
          | omega
          | rfl
          | skip))
def Db : Con := Ss (fun (t : Sl Node) => t.l.length ≤ 1000000) (fun t => Sl.mk (t.l.map Hx))
noncomputable def ctx_bare19 : Ctx := ⟨tab, lkC [], 60, lkB [], [], false⟩
theorem R1 : ctx_bare19.τ = tab := rfl
theorem ctx_bare19_d : ctx_bare19.dp = 60 := rfl
theorem ctx_bare19_w : ctx_bare19.wr = false := rfl
set_option maxRecDepth 100000 in
theorem good_bare19 : Gj Tryz.prog (62, Db) := by
  refine ⟨U7 Tryz.func62 (by kernel_rfl) rfl, ?_⟩
  have K : Ky Tryz.prog ctx_bare19 := Kd K6 Ki (by simp) (by simp)
  obtain ⟨c, hc⟩ : ∃ c, Tryz.f62.body = some c := ⟨_, rfl⟩
  refine Ke K Tryz.func62 hc [.tmp 2] rfl 25 rfl (fun cvs hpre => ?_)
  change Db.pre cvs at hpre
  unfold Db at hpre
  obtain ⟨⟨t⟩, rfl, ht⟩ := Ha hpre
  simp only at ht
  clear hpre
  simp only [Tryz.f62, Option.some.injEq] at hc
  subst hc
  (sym =>
   simp [Uu,Us,Uv,Ur,szN,Ut,R1,Db.eq_def,Za,Zb,Zc,Ze,Zf,Zn,Zo,Zr,Z1,Z4,Z5,Qq,Qs,Q1,Q2,Q4,Jb,Jc,Jd,Je,Jg,Jh,Ji,Jw,J3,J4,Xd,Xu,X4,X6,X8,X9,Wc,Wf,Wh,Wi,Wj,Wl,Wn,Wt,Wu,Wv,Ww,Wy,W0,W3,W5,W6,W7,Y0,Y1,Y7,Y8,Y9,Va,Vb,Vc,Vj,Vu,V4,V7,Um,Un,Uo,Up,U8,U4,U3]
   tactic =>
    try simp only [U1] at *
    try simp only [nc2] at *
    try simp (maxSteps := 4000000) only [Uu,Us,Uv,Ur,szN,Ut,U9]
    repeat' (first | with_reducible assumption | with_reducible refine And.intro ?_ ?_ | intro _ | omega | (rw [U0]; omega))
    refine Km [8, 9, 10, 11, 12, 13, 14, 15, 16, 17, 18, 19, 20, 21, 22, 23] (fun k : Nat => [(3, .sl 5 ((P6 t k).map (enc : Node → D)).length), (4, .d (.int .i64 k))]) (fun k : Nat => [(5, .row 3 ((P6 t k).map enc) 0)]) (fun k : Nat => k ≤ t.length) (fun k : Nat => t.length - k) 0 ?_ ?_ ?_
    · omega
    · ((try simp only [U2, Ka, U6, Kg, upd, Kh, Ko, Gd, Nat.reduceDiv, Nat.reduceMod, Nat.reduceMul, Nat.reduceAdd, Nat.reduceEqDiff, List.set_cons_zero, List.set_cons_succ, if_true, if_false, reduceIte]); (first | refine Wk.of_fl ?_ | skip); simp only [Wk, wkK, Gl, wkT, wk1, AV.kept, keptAll, wkO, lk, U5, and_true, true_and, and_self, Nat.reduceEqDiff, Nat.reduceLeDiff, if_true, if_false, reduceIte, reduceCtorEq, Option.isSome, false_implies]; try simp [Wk, wkK, wkT, wk1, AV.kept, keptAll, wkO, lk, U5, P6])
    rintro k hk
    have hlen : (P6 t k).length = t.length := bareR_len
    have hlen2 : (P6 t (k + 1)).length = t.length := bareR_len
    rcases Ks k t.length with ⟨hlt, hlb⟩ | ⟨hlt, hlb⟩
    · have q1 := Kf n0 (show k < (P6 t k).length by omega)
      have hset := bareR_set hlt
      rw [bareR_at hlt] at q1
      obtain ⟨n, hn2⟩ : ∃ n, t.getD k n0 = n := ⟨_, rfl⟩
      rw [hn2] at q1 hset
      cases h0 : (n.kind == 0) with
      | true =>
        rw [norm_dyn0 h0] at hset
        have hset2 : ((P6 t k).map (enc : Node → D)).set k (.agg [.int .i64 n.kind, .str n.name, .int .i64 0]) = (P6 t (k + 1)).map enc := by
          rw [← hset, List.map_set]
          rfl
        (sym =>
         simp [hlb,hlen,q1,h0,hset2,Uu,Us,Uv,Ur,szN,Ut,R1,ctx_bare19_d,ctx_bare19_w,Zb,Zc,Ze,Zf,Zg,Zo,Zp,Zq,Zs,Zv,Zw,Zx,Zy,Z6,Qb,Qd,Qq,Qs,Q1,Q2,Q4,Jh,Ji,Jy,Jz,J0,Xf,Xq,X3,X4,X6,X7,X8,Wc,Wf,Wh,Wi,Wj,Wt,Wu,W8,W9,Yd,Ye,Yi,Ym,Yn,Yt,Yw,Y7,Y8,Y9,Va,Vr,Vt,V4,Uk,Um,Un,Uo,Up,U8,U4,U3]
         tactic =>
          try simp only [U1] at *
          try simp only [nc2] at *
          try simp (maxSteps := 4000000) only [hlb,hlen,q1,h0,hset2,Uu,Us,Uv,Ur,szN,Ut,U9]
          repeat' (first | with_reducible assumption | with_reducible refine And.intro ?_ ?_ | intro _ | omega | (rw [U0]; omega))
          all_goals first
            | omega
            | exact ⟨k + 1, by ((try simp only [U2, Ka, U6, Kg, upd, Kh, Ko, Gd, Nat.reduceDiv, Nat.reduceMod, Nat.reduceMul, Nat.reduceAdd, Nat.reduceEqDiff, List.set_cons_zero, List.set_cons_succ, if_true, if_false, reduceIte]); (first | refine Wk.of_fl ?_ | skip); simp only [Wk, wkK, Gl, wkT, wk1, AV.kept, keptAll, wkO, lk, U5, and_true, true_and, and_self, Nat.reduceEqDiff, Nat.reduceLeDiff, if_true, if_false, reduceIte, reduceCtorEq, Option.isSome, false_implies]; try simp [Wk, wkK, wkT, wk1, AV.kept, keptAll, wkO, lk, U5, hlen, hlen2]), by omega, by omega⟩)
      | false =>
        have hset2 : P6 t (k + 1) = P6 t k := by
          rw [← hset, norm_not h0]
          have : (P6 t k).getD k n0 = n := by rw [bareR_at hlt, hn2]
          rw [← this]
          refine List.ext_getElem (by simp) fun j h1 h2 => ?_
          rw [List.getElem_set]
          split
          · next e => subst e; simp [h2]
          · rfl
        (sym =>
         simp [hlb,hlen,q1,h0,Uu,Us,Uv,Ur,szN,Ut,R1,ctx_bare19_w,Zb,Zc,Ze,Zf,Zg,Zo,Zp,Zq,Zs,Zv,Zx,Zy,Z6,Qb,Qd,Qq,Qs,Q1,Q2,Q4,Jh,Ji,Jy,Jz,J0,X3,X4,X6,X7,X8,Wc,Wf,Wh,Wi,Wj,Wt,Wu,W8,Yd,Ye,Yi,Ym,Yw,Y7,Y8,Y9,Va,Vr,Vt,V4,Uk,Ul,Um,Un,Uo,Up,U8,U4,U3]
         tactic =>
          try simp only [U1] at *
          try simp only [nc2] at *
          try simp (maxSteps := 4000000) only [hlb,hlen,q1,h0,Uu,Us,Uv,Ur,szN,Ut,U9]
          repeat' (first | with_reducible assumption | with_reducible refine And.intro ?_ ?_ | intro _ | omega | (rw [U0]; omega))
          all_goals first
            | omega
            | exact ⟨k + 1, by rw [hset2]; ((try simp only [U2, Ka, U6, Kg, upd, Kh, Ko, Gd, Nat.reduceDiv, Nat.reduceMod, Nat.reduceMul, Nat.reduceAdd, Nat.reduceEqDiff, List.set_cons_zero, List.set_cons_succ, if_true, if_false, reduceIte]); (first | refine Wk.of_fl ?_ | skip); simp only [Wk, wkK, Gl, wkT, wk1, AV.kept, keptAll, wkO, lk, U5, and_true, true_and, and_self, Nat.reduceEqDiff, Nat.reduceLeDiff, if_true, if_false, reduceIte, reduceCtorEq, Option.isSome, false_implies]; try simp [Wk, wkK, wkT, wk1, AV.kept, keptAll, wkO, lk, U5, hlen, hlen2]), by omega, by omega⟩)
    · have hkl : k = t.length := by omega
      subst hkl
      have hend : P6 t t.length = t.map Hx := by unfold P6; simp
      rw [hend] at *
      (sym =>
       simp [hlb,hlen,Uu,Us,Uv,Ur,szN,Ut,R1,ctx_bare19_d,Zb,Zc,Ze,Zf,Zg,Z6,Qb,Qd,Qn,Qo,Qp,Qq,Qs,Q1,Q2,Q4,Q8,Jh,Ji,Jk,Jy,Jz,J0,Xh,X4,X6,X7,Wa,Wb,Wc,Wf,Wh,Wi,Wt,Wu,Yd,Ye,Yi,Y7,Y8,Y9,Va,Vt,Ul,Um,Un,Up,U8,U4,U3]
       tactic =>
        try simp only [U1] at *
        try simp only [nc2] at *
        try simp (maxSteps := 4000000) only [hlb,hlen,Uu,Us,Uv,Ur,szN,Ut,U9]
        all_goals rfl))
noncomputable def atX (t : Rose Node) (s : List UInt8) : Sl (Sl Node) × Bool := match Hb t s with
  | some y => (⟨Mc [y]⟩, true)
  | none => (⟨[]⟩, false)
def tagS (s : List UInt8) (q : Rose Node) : Bool := q.root.name == s
noncomputable def G9 : Con := con2t (fun (t : Sl Node) (_ : List UInt8) => Bh t.l) (fun t s => atX (K1 ar t.l 0) s)
noncomputable def ctx_at19 : Ctx := ⟨tab, lkC [(20, Kk)], 60, lkB [], [], false⟩
theorem ctx_at19_t : ctx_at19.τ = tab := rfl
theorem ctx_at19_c : ctx_at19.Γ = lkC [(20, Kk)] := rfl
theorem ctx_at19_d : ctx_at19.dp = 60 := rfl
theorem ctx_at19_b : ctx_at19.Δ = lkB [] := rfl
theorem ctx_at19_w : ctx_at19.wr = false := rfl
set_option maxRecDepth 100000 in
theorem good_at19 : Gj Tryz.prog (36, G9) := by
  refine ⟨U7 Tryz.func36 (by kernel_rfl) rfl, ?_⟩
  have K : Ky Tryz.prog ctx_at19 := Kd K6 Ki (by
    intro p hp
    simp only [List.mem_cons, List.not_mem_nil, or_false] at hp
    rcases hp with rfl
    · exact D3) (by simp)
  obtain ⟨c, hc⟩ : ∃ c, Tryz.f36.body = some c := ⟨_, rfl⟩
  refine Ke K Tryz.func36 hc [.tmp 4, .tmp 5] rfl 31 rfl (fun cvs hpre => ?_)
  change G9.pre cvs at hpre
  unfold G9 at hpre
  obtain ⟨⟨t⟩, s, rfl, hT7⟩ := con2t_pre hpre
  simp only at hT7
  have hT7' : Bh t := hT7
  obtain ⟨tl, tN, y, hyt, hyw⟩ : Bh t := hT7
  have hya : At ar t 0 y := by rw [hyt]; exact Ns hyw
  have hy1 := Gq hya
  have k7 : kids7 t = (⟨Na y.kids⟩, ⟨N3 y.kids⟩) := Ii hya
  have lle := labs_le hya
  rw [Hd] at lle
  obtain ⟨R, hR⟩ : ∃ R, atX y s = R := ⟨_, rfl⟩
  have hR2 := hR
  unfold atX Hb at hR2
  obtain ⟨qs, hqs⟩ : ∃ qs, y.kids = qs := ⟨_, rfl⟩
  rw [hqs] at hR2 k7 lle
  have hpl : (Na qs).length = qs.length := T3
  have hll : (N3 qs).length = qs.length := Hd
  have htl2 : t.length ≤ 9223372036854775807 := by omega
  clear hpre
  simp only [Tryz.f36, Option.some.injEq] at hc
  subst hc
  (sym =>
   simp [Hh.eq_def,hy1,k7,Uu,Us,Uv,Ur,szN,Ut,ctx_at19_t,ctx_at19_c,ctx_at19_d,ctx_at19_b,G9.eq_def,Kk.eq_def,Za,Zb,Zc,Ze,Zf,Zn,Zo,Z8,Z9,Qe,Qf,Qg,Qq,Qs,Q1,Q2,Q4,Q8,Q9,Ja,Jf,Jj,Jl,Jw,J3,J4,Xf,Xx,X4,X6,X8,X9,Wc,Wf,Wh,Wi,Wj,Wt,Wu,Wv,Ww,Wx,Wy,Wz,W0,W6,W7,Yy,Yz,Y7,Y8,Y9,Va,Vb,Vc,Vi,Vj,Vo,Vu,V4,V5,V7,Um,Un,U8,Kq,U4,Kr,U3,My]
   tactic =>
    try simp only [U1] at *
    try simp only [nc2] at *
    try simp (maxSteps := 4000000) only [Hh.eq_def,hy1,k7,Uu,Us,Uv,Ur,szN,Ut,U9]
    repeat' (first | with_reducible assumption | with_reducible refine And.intro ?_ ?_ | intro _ | omega | (rw [U0]; omega))
    refine Km [4, 5, 14, 15, 16, 17, 18, 19, 20, 21, 22, 23, 24, 25, 26, 27, 28, 29, 30] (fun k : Nat => [(8, .d (.int .i64 k))]) (fun k : Nat => []) (fun k : Nat => k ≤ qs.length ∧ ∀ j (h : j < qs.length), j < k → tagS s qs[j] = false) (fun k : Nat => qs.length - k) 0 ?_ ?_ ?_
    · simp
    · ((try simp only [U2, Ka, U6, Kg, upd, Kh, Ko, Gd, Nat.reduceDiv, Nat.reduceMod, Nat.reduceMul, Nat.reduceAdd, Nat.reduceEqDiff, List.set_cons_zero, List.set_cons_succ, if_true, if_false, reduceIte]); (first | refine Wk.of_fl ?_ | skip); simp only [Wk, wkK, Gl, wkT, wk1, AV.kept, keptAll, wkO, lk, U5, and_true, true_and, and_self, Nat.reduceEqDiff, Nat.reduceLeDiff, if_true, if_false, reduceIte, reduceCtorEq, Option.isSome, false_implies]; try simp [Wk, wkK, wkT, wk1, AV.kept, keptAll, wkO, lk, U5])
    rintro k ⟨hk, hno⟩
    rcases Ks k qs.length with ⟨hlt, hlb⟩ | ⟨hlt, hlb⟩
    · have q2 := Kf (⟨[]⟩ : Sl Node) (show k < (Na qs).length by omega)
      rw [parts_at hlt] at q2
      have q3 := Kf ([] : List UInt8) (show k < (N3 qs).length by omega)
      rw [kid_name hlt] at q3
      have hst : (qs[k].root.name == s) = false → ∀ j (h : j < qs.length), j < k + 1 → tagS s qs[j] = false := by
        intro h j hj1 hj
        by_cases hjk : j = k
        · subst hjk; exact h
        · exact hno j hj1 (by omega)
      cases hb : (qs[k].root.name == s) with
      | false =>
        have hs2 := hst hb
        (sym =>
         simp [hlb,hpl,hll,q2,q3,hb,Uu,Us,Uv,Ur,szN,Ut,ctx_at19_t,ctx_at19_w,Zb,Zc,Ze,Zf,Zg,Zo,Zp,Zq,Zv,Zy,Z6,Qb,Qd,Qq,Qs,Q1,Q2,Q4,Jy,Jz,J0,X3,X4,X6,X7,X8,Wc,Wf,Wh,Wi,Wj,Wt,Wu,Yd,Ye,Yg,Yi,Yk,Ym,Yu,Yz,Y0,Y1,Y5,Y6,Y7,Y8,Y9,Va,Vr,Vt,Vu,V4,Uk,Ul,Um,Un,Uo,Up,U8,Kq,U4,Kr,U3,My]
         tactic =>
          try simp only [U1] at *
          try simp only [nc2] at *
          try simp (maxSteps := 4000000) only [hlb,hpl,hll,q2,q3,hb,Uu,Us,Uv,Ur,szN,Ut,U9]
          repeat' (first | with_reducible assumption | with_reducible refine And.intro ?_ ?_ | intro _ | omega | (rw [U0]; omega))
          all_goals first
            | (with_reducible refine Kl ?_; kernel_rfl)
            | omega
            | exact ⟨k + 1, by ((try simp only [U2, Ka, U6, Kg, upd, Kh, Ko, Gd, Nat.reduceDiv, Nat.reduceMod, Nat.reduceMul, Nat.reduceAdd, Nat.reduceEqDiff, List.set_cons_zero, List.set_cons_succ, if_true, if_false, reduceIte]); (first | refine Wk.of_fl ?_ | skip); simp only [Wk, wkK, Gl, wkT, wk1, AV.kept, keptAll, wkO, lk, U5, and_true, true_and, and_self, Nat.reduceEqDiff, Nat.reduceLeDiff, if_true, if_false, reduceIte, reduceCtorEq, Option.isSome, false_implies]; try simp [Wk, wkK, wkT, wk1, AV.kept, keptAll, wkO, lk, U5]), by omega, hs2, by omega⟩
            | skip)
      | true =>
        rw [findIdx_hit (p := fun q => q.root.name == s) hlt hb hno] at hR2
        simp only [Option.map_some] at hR2
        have hsl : ((Na qs).take (k + 1)).drop k = Mc [M2 (qs.getD k (mk n0 []))] := by
          rw [parts_sls]
          unfold Mc
          rw [← List.map_take, ← List.map_drop, ← List.map_take, ← List.map_drop]
          refine congrArg _ ?_
          rw [List.take_succ_eq_append_getElem hlt, List.drop_append_of_le_length (by simp; omega)]
          simp [hlt]
        subst hR2
        (sym =>
         simp [hlb,hpl,hll,q2,q3,hb,hy1,hR,Uu,Us,Uv,Ur,szN,Ut,ctx_at19_t,ctx_at19_d,ctx_at19_w,Zb,Zc,Ze,Zf,Zg,Zo,Zp,Zq,Zv,Zy,Z0,Z6,Qb,Qd,Qj,Qn,Qo,Qp,Qq,Qs,Q1,Q2,Q4,Q8,Jk,Jy,Jz,J0,Xf,X3,X4,X6,X7,X8,Wb,Wc,Wf,Wh,Wi,Wj,Wt,Wu,Wv,Ww,Yd,Ye,Yg,Yi,Yk,Ym,Yu,Yz,Y0,Y1,Y5,Y6,Y7,Y8,Y9,Va,Vr,Vt,Vu,V4,V5,Uk,Um,Un,Uo,Up,U8,Kq,U4,Kr,U3,My]
         tactic =>
          try simp only [U1] at *
          try simp only [nc2] at *
          try simp (maxSteps := 4000000) only [hlb,hpl,hll,q2,q3,hb,hy1,hR,Uu,Us,Uv,Ur,szN,Ut,U9]
          repeat' (first | with_reducible assumption | with_reducible refine And.intro ?_ ?_ | intro _ | omega | (rw [U0]; omega))
          all_goals first
            | (with_reducible refine Kl ?_; kernel_rfl)
            | omega
            | rfl
            | (rw [show ((k : Int) + 1).toNat = k + 1 by omega, ← List.map_take, ← List.map_drop, hsl]; done)
            | skip)
    · rw [findIdx_miss (p := fun q => q.root.name == s) fun j hj => hno j hj (by omega)] at hR2
      simp only [Option.map_none] at hR2
      subst hR2
      (sym =>
       simp [hlb,hpl,hll,hy1,hR,Uu,Us,Uv,Ur,szN,Ut,ctx_at19_t,ctx_at19_d,Zb,Zc,Ze,Zf,Zg,Zn,Zo,Z6,Qb,Qd,Qn,Qo,Qp,Qq,Qs,Q1,Q2,Q4,Q8,Jk,Jy,Jz,J0,Xf,Xg,X4,X6,X7,Wa,Wb,Wc,Wf,Wh,Wi,Wj,Wt,Wu,Wv,Ww,Yd,Ye,Yi,Y0,Y1,Y6,Y7,Y8,Y9,Va,Vt,Vu,V5,V7,Ul,Um,Un,Uo,Up,U8,Kq,U4,Kr,U3,My]
       tactic =>
        try simp only [U1] at *
        try simp only [nc2] at *
        try simp (maxSteps := 4000000) only [hlb,hpl,hll,hy1,hR,Uu,Us,Uv,Ur,szN,Ut,U9]
        repeat' (first | with_reducible assumption | with_reducible refine And.intro ?_ ?_ | intro _ | omega | (rw [U0]; omega))
        all_goals first
          | omega
          | rfl
          | skip))
def Kv : Con := L6 (fun (v : Sl VNode) (t u : Sl Node) (_ : Int) => VaIn v.l ∧ Oa t.l ∧ Oa u.l) (fun v t u l => Sl.mk (wrapL v.l t.l u.l l))
noncomputable def Sy : Ctx := ⟨tab, lkC [(62, Db)], 60, lkB [], [], false⟩
theorem ctx_wrapped19_t : Sy.τ = tab := rfl
theorem ctx_wrapped19_c : Sy.Γ = lkC [(62, Db)] := rfl
theorem ctx_wrapped19_d : Sy.dp = 60 := rfl
theorem ctx_wrapped19_b : Sy.Δ = lkB [] := rfl
theorem ctx_wrapped19_w : Sy.wr = false := rfl
set_option maxRecDepth 100000 in
theorem Im : Gj Tryz.prog (34, Kv) := by
  refine ⟨U7 Tryz.func34 (by kernel_rfl) rfl, ?_⟩
  have K : Ky Tryz.prog Sy := Kd K6 Ki (by
    intro p hp
    simp only [List.mem_cons, List.not_mem_nil, or_false] at hp
    rcases hp with rfl
    · exact good_bare19) (by simp)
  obtain ⟨c, hc⟩ : ∃ c, Tryz.f34.body = some c := ⟨_, rfl⟩
  refine Ke K Tryz.func34 hc [.tmp 8] rfl 28 rfl (fun cvs hpre => ?_)
  change Kv.pre cvs at hpre
  unfold Kv at hpre
  obtain ⟨⟨v⟩, ⟨t⟩, ⟨u⟩, lab, rfl, hV, hT, hU⟩ := con4_pre hpre
  obtain ⟨v1, v2⟩ : VaIn v := hV
  obtain ⟨t1, t2⟩ : Oa t := hT
  obtain ⟨u1, u2⟩ : Oa u := hU
  have hpos : 0 < v.length := List.length_pos_iff.2 v1
  have hel := Kf v0 hpos
  obtain ⟨n, hn⟩ : ∃ n, v.getD 0 v0 = n := ⟨_, rfl⟩
  rw [hn] at hel
  have hset := relabL_set hpos hn
  have hl := relabL_len (v := v)
  have hw : wrapL v t u lab = ⟨7, n.label, [], lab, 0, t.map Hx, u.map Hx⟩ :: relabL v := by unfold wrapL; rw [hn]
  clear hpre
  simp only [Tryz.f34, Option.some.injEq] at hc
  subst hc
  (sym =>
   simp [L6.eq_def,hel,hset,hw,dec_VNodeT,isE_VNodeT,Uw,Uz,Uy,Ux,szV,Uu,Us,Uv,Ur,szN,Ut,ctx_wrapped19_t,ctx_wrapped19_c,ctx_wrapped19_d,ctx_wrapped19_b,ctx_wrapped19_w,Db.eq_def,Kv.eq_def,Za,Zb,Zc,Ze,Zf,Zh,Zi,Zj,Zk,Zl,Zm,Zn,Zo,Zp,Zq,Zr,Zs,Zv,Zw,Zx,Zy,Z1,Z2,Z4,Z5,Z9,Qe,Qf,Qh,Ql,Qn,Qo,Qp,Qq,Qr,Qs,Q1,Q2,Q4,Q5,Q6,Q7,Q8,Ja,Jb,Jc,Jd,Je,Jf,Jg,Jh,Ji,Jj,Jk,Jl,Jw,J3,J4,Xd,Xe,Xf,Xh,Xq,Xr,Xu,X4,X5,X6,Wb,Wc,Wd,We,Wf,Wg,Wh,Wi,Wj,Wl,Wm,Wn,Wp,Wq,Wr,Ws,Wt,Wu,Wv,Ww,Wx,Wy,Wz,W0,W3,W4,W5,W6,W7,W8,W9,Ye,Ym,Yn,Yo,Yq,Yu,Yw,Yx,Y0,Y1,Y2,Y7,Y8,Y9,Va,Vb,Vc,Vh,Vj,Vo,Vs,Vu,Vw,Vy,V3,V4,V6,V7,V8,V9,Ud,Ue,Ui,Ul,Um,Un,Uo,Up,Uq,Nx,Kq,Kc,U4,U3,Kb]
   tactic =>
    try simp only [U1] at *
    try simp only [nc2] at *
    try simp (maxSteps := 4000000) only [L6.eq_def,hel,hset,hw,dec_VNodeT,isE_VNodeT,Uw,Uz,Uy,Ux,szV,Uu,Us,Uv,Ur,szN,Ut,U9]
    repeat' (first | with_reducible assumption | with_reducible refine And.intro ?_ ?_ | intro _ | omega | (rw [U0]; omega))
    all_goals first
      | (with_reducible refine Kl ?_; kernel_rfl)
      | omega
      | rfl
      | skip)
end Go.Am.Ty
set_option linter.unusedSimpArgs false
set_option linter.unusedVariables false
set_option maxHeartbeats 2000000
namespace Go.Am.Ty
open Go.Proofs Go.Rose Go.Rose.Rose
open Enc (enc dec)
structure CP (x : Rose VNode) (y w : Rose Node) : Prop where
  wf : wf arV x
  ok : ∃ d, okV x d = true
  py : PT y
  pw : PT w
  ag : agX false y w = true
  fit : fitsR x y = true
theorem parts_dyn {n : VNode} {ks : List (Rose VNode)} {t : Rose Node} (h : t.root.kind = 0) : Gk n ks t = some (List.replicate ks.length Gu) := by
  unfold Gk
  rw [show (t.root.kind == 0) = true by simp [h], cond_true]
theorem knum {t : Rose Node} (ht : PT t) (h6 : t.root.kind = 6) : t.root.n = (t.kids.length : Int) := by
  have h1 := (Rh.1 ht.1.wf).1
  have h2 := D1 (ht.1.numb _ (Ld t))
  rw [h1, ← h2]
  unfold Pu
  rw [h6]
  rfl
theorem parts_rec {n : VNode} {ks : List (Rose VNode)} {t : Rose Node} (ht : PT t) (h6 : t.root.kind = 6) (h4 : n.kind = 4) (hl : Le ks = N3 t.kids) : Gk n ks t = some (t.kids.map M2) := by
  have hlen : ks.length = t.kids.length := by rw [← Bv (ks := ks), hl, Hd]
  unfold Gk
  rw [show (t.root.kind == 0) = false by simp [h6], show (t.root.kind == 7) = false by simp [h6], show (t.root.kind == 6) = true by simp [h6], show (n.kind == 4) = true by simp [h4]]
  simp only [cond_false, Bool.false_and, Bool.true_and]
  rw [show (t.root.n == (ks.length : Int)) = true by rw [beq_iff_eq, knum ht h6, hlen], cond_true]
  exact fields_all (rising_type ht (.inl h6)) hl
theorem parts_recN {n : VNode} {ks : List (Rose VNode)} {t : Rose Node} {d : Nat} (ht : PT t) (hx : okV (mk n ks) d = true) (h6 : t.root.kind = 6) (h : (n.kind == 4 && Le ks == N3 t.kids) = false) : Gk n ks t = none := by
  unfold Gk
  rw [show (t.root.kind == 0) = false by simp [h6], show (t.root.kind == 7) = false by simp [h6], show (t.root.kind == 6) = true by simp [h6]]
  simp only [cond_false, Bool.false_and, Bool.true_and]
  cases h4 : (n.kind == 4) with
  | false => rfl
  | true =>
    rw [h4, Bool.true_and] at h
    rw [Bool.true_and]
    cases hn : (t.root.n == (ks.length : Int)) with
    | false => rfl
    | true =>
      rw [cond_true]
      cases hf : Hl t ks with
      | none => rfl
      | some l =>
        exfalso
        rw [beq_iff_eq, knum ht h6] at hn
        have hok : Eq n ks = true := by rw [okV] at hx; simp only [Bool.and_eq_true] at hx; exact hx.2.2.1
        have := fields_labs (n := n) (rising_type ht (.inl h6)) (rising_kids hok (by simpa using h4)) (by omega) hf
        rw [this, beq_self_eq_true] at h
        cases h
theorem Ae {n : VNode} {ks : List (Rose VNode)} {t : Rose Node} (h7 : t.root.kind = 7) (h5 : n.kind = 5) : Gk n ks t = (Hb t n.name).map fun y => [y] := by
  unfold Gk
  rw [show (t.root.kind == 0) = false by simp [h7], show (t.root.kind == 7) = true by simp [h7], show (n.kind == 5) = true by simp [h5]]
  rfl
theorem Eo {n : VNode} {ks : List (Rose VNode)} {t : Rose Node} (h0 : t.root.kind ≠ 0) (h7 : t.root.kind = 7 → n.kind ≠ 5) (h6 : t.root.kind ≠ 6) : Gk n ks t = none := by
  unfold Gk
  rw [show (t.root.kind == 0) = false by simp [h0], show (t.root.kind == 6) = false by simp [h6], cond_false, Bool.false_and]
  cases h : (t.root.kind == 7 && n.kind == 5) with
  | false => rfl
  | true =>
    rw [Bool.and_eq_true, beq_iff_eq, beq_iff_eq] at h
    exact absurd h.2 (h7 h.1)
theorem cp_parts {n : VNode} {ks : List (Rose VNode)} {y w : Rose Node} {a b : List (Rose Node)} (h : CP (mk n ks) y w) (hf : H4 n = false) (h45 : (n.kind == 4 || n.kind == 5) = true) (ha : Gk n ks y = some a) (hb : Gk n ks w = some b) :
    a.length = ks.length ∧ b.length = ks.length ∧ ∀ j, j < ks.length → CP (ks.getD j dv) (a.getD j Gu) (b.getD j Gu) := by
  have hk5 : n.kind = 5 → ks.length = 1 := fun h5 => kid1 h.wf h5
  refine ⟨Se ha hk5, Se hb hk5, fun j hj => ?_⟩
  obtain ⟨d, hd⟩ := h.ok
  obtain ⟨a', ha', hfa⟩ := (Iq hf h45).1 h.fit
  rw [ha] at ha'
  injection ha' with ha'
  subst ha'
  refine ⟨?_, ⟨d + Lt n, ?_⟩, pt_getD (pt_parts h.py ha) j, pt_getD (pt_parts h.pw hb) j, parts_ag h.py h.pw hk5 h.ag ha hb j hj, hfa j hj⟩
  · rw [M4 hj]; exact Oc h.wf.2 _ (List.getElem_mem hj)
  · rw [M4 hj]; exact okV_kid hd hj
theorem As {lab : Int} {n : VNode} {ks : List (Rose VNode)} {t u : Rose Node} {a b : List (Rose Node)} (hs : Gp (nds t) (nds u) = false) (hf : H4 n = false) (h45 : (n.kind == 4 || n.kind == 5) = true) (ha : Gk n ks t = some a) (hb : Gk n ks u = some b) :
    castR lab (mk n ks) t u = (castRs lab ks a b).map (mk n) := by
  rw [castR, hs, cond_false, hf, cond_false, h45, cond_true, ha, hb]
theorem cast_none {lab : Int} {n : VNode} {ks : List (Rose VNode)} {t u : Rose Node} (hs : Gp (nds t) (nds u) = false) (hf : H4 n = false) (h45 : (n.kind == 4 || n.kind == 5) = true) (hb : Gk n ks u = none) :
    castR lab (mk n ks) t u = none := by
  rw [castR, hs, cond_false, hf, cond_false, h45, cond_true, hb]
  cases Gk n ks t <;> rfl
theorem Mb {t u : Rose Node} (h : t.root.kind ≠ u.root.kind) : Gp (nds t) (nds u) = false := by
  rw [Bool.eq_false_iff]
  intro hs
  exact h (A4 hs)
theorem not_fun {n : VNode} (h6 : n.kind ≠ 6) (h7 : n.kind ≠ 7) : H4 n = false := by
  unfold H4
  simp [h6,h7]
theorem no_base {n : VNode} {k : Int} (h : k = 5 ∨ k = 6 ∨ k = 7) : N9 n k = false := by
  unfold N9
  rcases h with rfl | rfl | rfl <;> cases n.kind == 0 <;> cases n.kind == 1 <;> cases n.kind == 2 <;> cases n.kind == 3 <;> rfl
theorem fit_fun {n : VNode} {ks : List (Rose VNode)} {t : Rose Node} {d : Nat} (ht : PT t) (hx : okV (mk n ks) d = true) (h5 : t.root.kind = 5) (h : fitsR (mk n ks) t = true) : H4 n = true := by
  cases hf : H4 n with
  | true => rfl
  | false =>
    exfalso
    cases h45 : (n.kind == 4 || n.kind == 5) with
    | true =>
      obtain ⟨a, ha, _⟩ := (Iq hf h45).1 h
      rw [Eo (by omega) (by omega) (by omega)] at ha
      cases ha
    | false =>
      rw [fits_base hf h45, no_base (by omega), show (t.root.kind == 0) = false by simp [h5]] at h
      cases h
theorem fit_notFun {n : VNode} {ks : List (Rose VNode)} {t : Rose Node} {d : Nat} (ht : PT t) (hx : okV (mk n ks) d = true) (h0 : t.root.kind ≠ 0) (h5 : t.root.kind ≠ 5) (h : fitsR (mk n ks) t = true) : H4 n = false := by
  cases hf : H4 n with
  | false => rfl
  | true =>
    exfalso
    have := (fits_fun ht hx hf h).1
    unfold Ps at this
    rw [show (t.root.kind == 0) = false by simp [h0], cond_false] at this
    exact h5 this
theorem fit_rec {n : VNode} {ks : List (Rose VNode)} {t : Rose Node} {d : Nat} (ht : PT t) (hx : okV (mk n ks) d = true) (h6 : t.root.kind = 6) (h : fitsR (mk n ks) t = true) : H4 n = false ∧ n.kind = 4 ∧ Le ks = N3 t.kids := by
  have hf := fit_notFun ht hx (by omega) (by omega) h
  refine ⟨hf, ?_⟩
  cases h45 : (n.kind == 4 || n.kind == 5) with
  | true =>
    obtain ⟨a, ha, _⟩ := (Iq hf h45).1 h
    cases hl : (n.kind == 4 && Le ks == N3 t.kids) with
    | false => rw [parts_recN ht hx h6 hl] at ha; cases ha
    | true => rw [Bool.and_eq_true, beq_iff_eq, beq_iff_eq] at hl; exact hl
  | false =>
    rw [fits_base hf h45, no_base (by omega), show (t.root.kind == 0) = false by simp [h6]] at h
    cases h
theorem fit_tag {n : VNode} {ks : List (Rose VNode)} {t : Rose Node} {d : Nat} (ht : PT t) (hx : okV (mk n ks) d = true) (h7 : t.root.kind = 7) (h : fitsR (mk n ks) t = true) : H4 n = false ∧ n.kind = 5 ∧ ∃ z, Hb t n.name = some z := by
  have hf := fit_notFun ht hx (by omega) (by omega) h
  refine ⟨hf, ?_⟩
  cases h45 : (n.kind == 4 || n.kind == 5) with
  | true =>
    obtain ⟨a, ha, _⟩ := (Iq hf h45).1 h
    by_cases h5 : n.kind = 5
    · refine ⟨h5, ?_⟩
      rw [Ae h7 h5, Option.map_eq_some_iff] at ha
      obtain ⟨z, hz, _⟩ := ha
      exact ⟨z, hz⟩
    · rw [Eo (by omega) (fun _ => h5) (by omega)] at ha
      cases ha
  | false =>
    rw [fits_base hf h45, no_base (by omega), show (t.root.kind == 0) = false by simp [h7]] at h
    cases h
theorem fit_base {n : VNode} {ks : List (Rose VNode)} {t : Rose Node} {d : Nat} (ht : PT t) (hx : okV (mk n ks) d = true) (h0 : t.root.kind ≠ 0) (h5 : t.root.kind ≠ 5) (h6 : t.root.kind ≠ 6) (h7 : t.root.kind ≠ 7) (h : fitsR (mk n ks) t = true) : H4 n = false ∧ (n.kind == 4 || n.kind == 5) = false := by
  have hf := fit_notFun ht hx h0 h5 h
  refine ⟨hf, ?_⟩
  cases h45 : (n.kind == 4 || n.kind == 5) with
  | true =>
    obtain ⟨a, ha, _⟩ := (Iq hf h45).1 h
    rw [Eo h0 (by omega) h6] at ha
    cases ha
  | false => rfl
theorem out_5 {lab : Int} {n : VNode} {ks : List (Rose VNode)} {y w : Rose Node} (h : CP (mk n ks) y w) (h5 : y.root.kind = 5) (hw0 : w.root.kind = 0) :
    castR lab (mk n ks) y w = cond (Gp (nds y) Fx) (some (mk n ks)) (some (Av lab (mk n ks) y dynFT)) := by
  obtain ⟨d, hd⟩ := h.ok
  have hf := fit_fun h.py hd h5 h.fit
  rw [Re (Mb (by omega)) hf]
  unfold funR
  rw [show Ps w = dynFT by unfold Ps; rw [show (w.root.kind == 0) = true by simp [hw0], cond_true], show Ps y = y by unfold Ps; rw [show (y.root.kind == 0) = false by simp [h5], cond_false], Er]
  rfl
theorem out_6 {lab : Int} {n : VNode} {ks : List (Rose VNode)} {y w : Rose Node} (h : CP (mk n ks) y w) (h6 : y.root.kind = 6) (hw0 : w.root.kind = 0) :
    castR lab (mk n ks) y w = (castRs lab ks (y.kids.map M2) (List.replicate y.kids.length Gu)).map (mk n) ∧ ks.length = y.kids.length ∧ ∀ j, j < ks.length → CP (ks.getD j dv) ((y.kids.map M2).getD j Gu) ((List.replicate y.kids.length Gu).getD j Gu) := by
  obtain ⟨d, hd⟩ := h.ok
  obtain ⟨hf, h4, hl⟩ := fit_rec h.py hd h6 h.fit
  have hlen : ks.length = y.kids.length := by rw [← Bv (ks := ks), hl, Hd]
  have h45 : (n.kind == 4 || n.kind == 5) = true := by simp [h4]
  have ha := parts_rec h.py h6 h4 hl
  have hb := parts_dyn (n := n) (ks := ks) hw0
  obtain ⟨_, _, g⟩ := cp_parts h hf h45 ha hb
  rw [← hlen]
  exact ⟨As (Mb (by omega)) hf h45 ha hb, rfl, g⟩
theorem out_7 {lab : Int} {n : VNode} {ks : List (Rose VNode)} {y w : Rose Node} (h : CP (mk n ks) y w) (h7 : y.root.kind = 7) (hw0 : w.root.kind = 0) :
    ∃ z, Hb y n.name = some z ∧ castR lab (mk n ks) y w = (castRs lab ks [z] [Gu]).map (mk n) ∧ ks.length = 1 ∧ ∀ j, j < ks.length → CP (ks.getD j dv) ([z].getD j Gu) ([Gu].getD j Gu) := by
  obtain ⟨d, hd⟩ := h.ok
  obtain ⟨hf, h5, z, hz⟩ := fit_tag h.py hd h7 h.fit
  have h45 : (n.kind == 4 || n.kind == 5) = true := by simp [h5]
  have ha := Ae (ks := ks) h7 h5
  rw [hz, Option.map_some] at ha
  have hb := parts_dyn (n := n) (ks := ks) hw0
  have hk : ks.length = 1 := kid1 h.wf h5
  obtain ⟨_, _, g⟩ := cp_parts h hf h45 ha hb
  have hc := As (lab := lab) (Mb (t := y) (u := w) (by omega)) hf h45 ha hb
  rw [hk] at g hc ⊢
  exact ⟨z, hz, hc, rfl, g⟩
theorem out_b {lab : Int} {n : VNode} {ks : List (Rose VNode)} {y w : Rose Node} (h : CP (mk n ks) y w) (h0 : y.root.kind ≠ 0) (h5 : y.root.kind ≠ 5) (h6 : y.root.kind ≠ 6) (h7 : y.root.kind ≠ 7) (hw0 : w.root.kind = 0) :
    castR lab (mk n ks) y w = some (mk n ks) := by
  obtain ⟨d, hd⟩ := h.ok
  obtain ⟨hf, h45⟩ := fit_base h.py hd h0 h5 h6 h7 h.fit
  rw [Fi (Mb (by omega)) hf h45, show (w.root.kind == 0) = true by simp [hw0]]
  rfl
theorem in_5 {lab : Int} {n : VNode} {ks : List (Rose VNode)} {y w : Rose Node} (h : CP (mk n ks) y w) (h5 : w.root.kind = 5) (hy0 : y.root.kind = 0) :
    castR lab (mk n ks) y w = cond (H4 n) (cond (Gp (nds w) Fx) (some (mk n ks)) (some (Av lab (mk n ks) dynFT w))) none := by
  cases hf : H4 n with
  | true =>
    rw [Re (Mb (by omega)) hf]
    unfold funR
    rw [show Ps y = dynFT by unfold Ps; rw [show (y.root.kind == 0) = true by simp [hy0], cond_true], show Ps w = w by unfold Ps; rw [show (w.root.kind == 0) = false by simp [h5], cond_false], Er, same3_comm Fx, show (w.root.kind == 5) = true by simp [h5]]
  | false =>
    rw [cond_false]
    cases h45 : (n.kind == 4 || n.kind == 5) with
    | true => exact cast_none (Mb (by omega)) hf h45 (Eo (by omega) (by omega) (by omega))
    | false =>
      rw [Fi (Mb (by omega)) hf h45, show (w.root.kind == 0) = false by simp [h5], no_base (by omega)]
      rfl
theorem in_6 {lab : Int} {n : VNode} {ks : List (Rose VNode)} {y w : Rose Node} (h : CP (mk n ks) y w) (h6 : w.root.kind = 6) (hy0 : y.root.kind = 0) :
    ((n.kind == 4 && Le ks == N3 w.kids) = false → castR lab (mk n ks) y w = none) ∧ ((n.kind == 4 && Le ks == N3 w.kids) = true →
      castR lab (mk n ks) y w = (castRs lab ks (List.replicate w.kids.length Gu) (w.kids.map M2)).map (mk n) ∧ ks.length = w.kids.length ∧ ∀ j, j < ks.length → CP (ks.getD j dv) ((List.replicate w.kids.length Gu).getD j Gu) ((w.kids.map M2).getD j Gu)) := by
  obtain ⟨d, hd⟩ := h.ok
  constructor
  · intro hl
    cases hf : H4 n with
    | true =>
      rw [Re (Mb (by omega)) hf]
      unfold funR
      rw [show Ps w = w by unfold Ps; rw [show (w.root.kind == 0) = false by simp [h6], cond_false], show (w.root.kind == 5) = false by simp [h6]]
      rfl
    | false =>
      cases h45 : (n.kind == 4 || n.kind == 5) with
      | true => exact cast_none (Mb (by omega)) hf h45 (parts_recN h.pw hd h6 hl)
      | false =>
        rw [Fi (Mb (by omega)) hf h45, show (w.root.kind == 0) = false by simp [h6], no_base (by omega)]
        rfl
  · intro hl
    rw [Bool.and_eq_true, beq_iff_eq, beq_iff_eq] at hl
    obtain ⟨h4, hl⟩ := hl
    have hf : H4 n = false := not_fun (by omega) (by omega)
    have hlen : ks.length = w.kids.length := by rw [← Bv (ks := ks), hl, Hd]
    have h45 : (n.kind == 4 || n.kind == 5) = true := by simp [h4]
    have hb := parts_rec h.pw h6 h4 hl
    have ha := parts_dyn (n := n) (ks := ks) hy0
    obtain ⟨_, _, g⟩ := cp_parts h hf h45 ha hb
    rw [← hlen]
    exact ⟨As (Mb (by omega)) hf h45 ha hb, rfl, g⟩
theorem in_7n {lab : Int} {n : VNode} {ks : List (Rose VNode)} {y w : Rose Node} (h : CP (mk n ks) y w) (h7 : w.root.kind = 7) (hy0 : y.root.kind = 0) (hn : n.kind = 5 → Hb w n.name = none) :
    castR lab (mk n ks) y w = none := by
  obtain ⟨d, hd⟩ := h.ok
  cases hf : H4 n with
  | true =>
    rw [Re (Mb (by omega)) hf]
    unfold funR
    rw [show Ps w = w by unfold Ps; rw [show (w.root.kind == 0) = false by simp [h7], cond_false], show (w.root.kind == 5) = false by simp [h7]]
    rfl
  | false =>
    cases h45 : (n.kind == 4 || n.kind == 5) with
    | true =>
      refine cast_none (Mb (by omega)) hf h45 ?_
      by_cases h5 : n.kind = 5
      · rw [Ae h7 h5, hn h5]; rfl
      · exact Eo (by omega) (fun _ => h5) (by omega)
    | false =>
      rw [Fi (Mb (by omega)) hf h45, show (w.root.kind == 0) = false by simp [h7], no_base (by omega)]
      rfl
theorem in_7 {lab : Int} {n : VNode} {ks : List (Rose VNode)} {y w z : Rose Node} (h : CP (mk n ks) y w) (h7 : w.root.kind = 7) (hy0 : y.root.kind = 0) (h5 : n.kind = 5) (hz : Hb w n.name = some z) :
    castR lab (mk n ks) y w = (castRs lab ks [Gu] [z]).map (mk n) ∧ ks.length = 1 ∧ ∀ j, j < ks.length → CP (ks.getD j dv) ([Gu].getD j Gu) ([z].getD j Gu) := by
  have hf : H4 n = false := not_fun (by omega) (by omega)
  have h45 : (n.kind == 4 || n.kind == 5) = true := by simp [h5]
  have hb := Ae (ks := ks) h7 h5
  rw [hz, Option.map_some] at hb
  have ha := parts_dyn (n := n) (ks := ks) hy0
  have hk : ks.length = 1 := kid1 h.wf h5
  obtain ⟨_, _, g⟩ := cp_parts h hf h45 ha hb
  have hc := As (lab := lab) (Mb (t := y) (u := w) (by omega)) hf h45 ha hb
  rw [hk] at g hc ⊢
  exact ⟨hc, rfl, g⟩
theorem in_b {lab : Int} {n : VNode} {ks : List (Rose VNode)} {y w : Rose Node} (h : CP (mk n ks) y w) (h0 : w.root.kind ≠ 0) (h5 : w.root.kind ≠ 5) (h6 : w.root.kind ≠ 6) (h7 : w.root.kind ≠ 7) (hy0 : y.root.kind = 0) :
    castR lab (mk n ks) y w = cond (baseOk n && baseK n == w.root.kind) (some (mk n ks)) none := by
  rw [base_is]
  cases hf : H4 n with
  | true =>
    rw [Re (Mb (by omega)) hf]
    unfold funR
    rw [show Ps w = w by unfold Ps; rw [show (w.root.kind == 0) = false by simp [h0], cond_false], show (w.root.kind == 5) = false by simp [h5], cond_false]
    unfold N9
    rcases fun_kind hf with h | h <;> rw [h] <;> rfl
  | false =>
    cases h45 : (n.kind == 4 || n.kind == 5) with
    | true =>
      rw [cast_none (Mb (by omega)) hf h45 (Eo h0 (by omega) h6)]
      rw [Bool.or_eq_true, beq_iff_eq, beq_iff_eq] at h45
      unfold N9
      rcases h45 with h | h <;> rw [h] <;> rfl
    | false =>
      rw [Fi (Mb (by omega)) hf h45, show (w.root.kind == 0) = false by simp [h0]]
      cases N9 n w.root.kind <;> rfl
theorem base_same {y w : Rose Node} (py : PT y) (pw : PT w) (ag : agX false y w = true) (h0 : y.root.kind ≠ 0) (h1 : w.root.kind ≠ 0) (h5 : y.root.kind ≠ 5) (h6 : y.root.kind ≠ 6) (h7 : y.root.kind ≠ 7) : Gp (nds y) (nds w) = true := by
  obtain ⟨hk, _, hn, _⟩ := ag_parts py pw h0 h1 ag
  rw [same3_norm py.1.wf pw.1.wf]
  have hky := (Rh.1 py.1.wf).1
  have hkw := (Rh.1 pw.1.wf).1
  have e1 : ar y.root = 0 := by unfold ar; rw [if_neg h5, if_neg (by omega)]
  have e2 : ar w.root = 0 := by unfold ar; rw [if_neg (by omega), if_neg (by omega)]
  rw [e1] at hky
  rw [e2] at hkw
  have n1 := py.1.name
  have n2 := pw.1.name
  obtain ⟨a, ks⟩ := y
  obtain ⟨b, qs⟩ := w
  simp only [T1, Rr] at *
  rw [List.eq_nil_of_length_eq_zero hky, List.eq_nil_of_length_eq_zero hkw]
  obtain ⟨a1, a2, a3⟩ := a
  obtain ⟨b1, b2, b3⟩ := b
  simp only at *
  subst hk hn n1 n2
  rfl
theorem both_5 {lab : Int} {n : VNode} {ks : List (Rose VNode)} {y w : Rose Node} (h : CP (mk n ks) y w) (hs : Gp (nds y) (nds w) = false) (h5 : y.root.kind = 5) (h1 : w.root.kind ≠ 0) :
    castR lab (mk n ks) y w = some (Av lab (mk n ks) y w) := by
  obtain ⟨d, hd⟩ := h.ok
  have hk := (ag_parts h.py h.pw (by omega) h1 h.ag).1
  have hf := fit_fun h.py hd h5 h.fit
  rw [Re hs hf]
  unfold funR
  rw [show Ps w = w by unfold Ps; rw [show (w.root.kind == 0) = false by simp [h1], cond_false], show Ps y = y by unfold Ps; rw [show (y.root.kind == 0) = false by simp [h5], cond_false], show (w.root.kind == 5) = true by rw [← hk, h5]; rfl, hs]
  rfl
theorem both_6 {lab : Int} {n : VNode} {ks : List (Rose VNode)} {y w : Rose Node} (h : CP (mk n ks) y w) (hs : Gp (nds y) (nds w) = false) (h6 : y.root.kind = 6) (h1 : w.root.kind ≠ 0) :
    castR lab (mk n ks) y w = (castRs lab ks (y.kids.map M2) (w.kids.map M2)).map (mk n) ∧ ks.length = y.kids.length ∧ ks.length = w.kids.length ∧ ∀ j, j < ks.length → CP (ks.getD j dv) ((y.kids.map M2).getD j Gu) ((w.kids.map M2).getD j Gu) := by
  obtain ⟨d, hd⟩ := h.ok
  obtain ⟨hk, hlb, _⟩ := ag_parts h.py h.pw (by omega) h1 h.ag
  obtain ⟨hf, h4, hl⟩ := fit_rec h.py hd h6 h.fit
  have hlen : ks.length = y.kids.length := by rw [← Bv (ks := ks), hl, Hd]
  have hlen2 : ks.length = w.kids.length := by rw [← Bv (ks := ks), hl, hlb, Hd]
  have h45 : (n.kind == 4 || n.kind == 5) = true := by simp [h4]
  have ha := parts_rec h.py h6 h4 hl
  have hb := parts_rec h.pw (by omega) h4 (by rw [hl, hlb])
  obtain ⟨_, _, g⟩ := cp_parts h hf h45 ha hb
  exact ⟨As hs hf h45 ha hb, hlen, hlen2, g⟩
theorem both_7 {lab : Int} {n : VNode} {ks : List (Rose VNode)} {y w : Rose Node} (h : CP (mk n ks) y w) (hs : Gp (nds y) (nds w) = false) (h7 : y.root.kind = 7) (h1 : w.root.kind ≠ 0) :
    ∃ z q, Hb y n.name = some z ∧ Hb w n.name = some q ∧ castR lab (mk n ks) y w = (castRs lab ks [z] [q]).map (mk n) ∧ ks.length = 1 ∧ ∀ j, j < ks.length → CP (ks.getD j dv) ([z].getD j Gu) ([q].getD j Gu) := by
  obtain ⟨d, hd⟩ := h.ok
  obtain ⟨hk, hlb, _⟩ := ag_parts h.py h.pw (by omega) h1 h.ag
  obtain ⟨hf, h5, z, hz⟩ := fit_tag h.py hd h7 h.fit
  have h45 : (n.kind == 4 || n.kind == 5) = true := by simp [h5]
  have ha := Ae (ks := ks) h7 h5
  rw [hz, Option.map_some] at ha
  obtain ⟨q, hq⟩ : ∃ q, Hb w n.name = some q := by
    cases hq : Hb w n.name with
    | some q => exact ⟨q, rfl⟩
    | none =>
      rw [field_none (t := w) (u := y) hlb.symm hq] at hz
      cases hz
  have hb := Ae (ks := ks) (t := w) (by omega) h5
  rw [hq, Option.map_some] at hb
  have hkl : ks.length = 1 := kid1 h.wf h5
  obtain ⟨_, _, g⟩ := cp_parts h hf h45 ha hb
  exact ⟨z, q, hz, hq, As hs hf h45 ha hb, hkl, g⟩
end Go.Am.Ty
set_option linter.unusedSimpArgs false
set_option linter.unusedVariables false
set_option maxHeartbeats 4000000
namespace Go.Am.Ty
open Go.Proofs Go.Rose Go.Rose.Rose
open Enc (enc dec)
def CastIn (n : Nat) (v : List VNode) (t u : List Node) : Prop := v.length ≤ 1000000 ∧ v.length < n ∧ ∃ x y w, v = nds x ∧ t = nds y ∧ u = nds w ∧ CP x y w
noncomputable def Hj (n : Nat) : Con := K7 (fun (v : Sl VNode) (t u : Sl Node) (_ : Int) => CastIn n v.l t.l u.l) (fun v t u lab => Cn (castR lab (K1 arV v.l 0) (K1 ar t.l 0) (K1 ar u.l 0)))
theorem con_Cast19_zero : ∀ c, ¬ (Hj 0).pre c := by
  intro c h
  unfold Hj at h
  obtain ⟨_, _, _, _, _, _, h, _⟩ := Ar h
  omega
noncomputable def trees (l : List (Sl Node)) : List (Rose Node) := l.map fun s => K1 ar s.l 0
theorem trees_sls {l : List (Rose Node)} (h : ∀ j (hj : j < l.length), wf ar l[j]) : trees (Mc l) = l := by
  unfold trees Mc
  rw [List.map_map]
  refine List.ext_getElem (by simp) fun j h1 h2 => ?_
  simp only [List.getElem_map, Function.comp]
  exact Gq (Ns (h j h2))
noncomputable def eachX (lab : Int) (x : Rose VNode) (a b : List (Rose Node)) : Sl VNode × Bool := Cn ((castRs lab x.kids a b).map (mk x.root))
def EachIn (n : Nat) (v : List VNode) (t u : List (Sl Node)) : Prop := v.length ≤ 1000000 ∧ v.length ≤ n ∧ ∃ x a b, v = nds x ∧ wf arV x ∧ t = Mc a ∧ u = Mc b ∧ a.length = x.kids.length ∧ b.length = x.kids.length ∧ ∀ j, j < x.kids.length → CP (x.kids.getD j dv) (a.getD j Gu) (b.getD j Gu)
noncomputable def Gm (n : Nat) : Con := K7 (fun (v : Sl VNode) (t u : Sl (Sl Node)) (_ : Int) => EachIn n v.l t.l u.l) (fun v t u lab => eachX lab (K1 arV v.l 0) (trees t.l) (trees u.l))
theorem seq_len {f : Nat → Option (Rose VNode)} {ks : List (Rose VNode)} (hf : ∀ j y, f j = some y → j < ks.length → (nds y).length ≤ 2 * (nds (ks.getD j dv)).length) : ∀ {n : Nat} {l : List (Rose VNode)}, Ek f n = some l → n ≤ ks.length → (ndss l).length ≤ 2 * (ndss (ks.take n)).length
  | 0, l, h, _ => by injection h with h; subst h; simp [ndss]
  | n + 1, l, h, hn => by
    rw [Ek] at h
    cases h1 : Ek f n with
    | none => rw [h1] at h; cases h
    | some l' =>
      cases h2 : f n with
      | none => rw [h1, h2] at h; cases h
      | some y =>
        rw [h1, h2] at h
        injection h with h
        subst h
        have g1 := seq_len hf h1 (by omega)
        have g2 := hf n y h2 (by omega)
        rw [M4 (by omega)] at g2
        rw [List.take_succ_eq_append_getElem (show n < ks.length by omega), Pt, Pt, List.length_append, List.length_append]
        simp only [ndss, List.length_append, List.length_nil]
        omega
theorem take_len {ks : List (Rose VNode)} {k : Nat} : (ndss (ks.take k)).length ≤ (ndss ks).length := by
  conv => rhs; rw [← List.take_append_drop k ks]
  rw [Pt, List.length_append]
  omega
def eL (m : VNode) (ys : List (Rose VNode)) : List VNode := m :: ndss ys
theorem eL_snoc {m : VNode} {ys : List (Rose VNode)} {y : Rose VNode} : eL m ys ++ nds y = eL m (ys ++ [y]) := by unfold eL; rw [Pt]; simp [ndss]
theorem eL_len {m : VNode} {ys : List (Rose VNode)} : (eL m ys).length = (ndss ys).length + 1 := rfl
theorem optX_s {y : Rose VNode} : Cn (some y) = (⟨nds y⟩, true) := rfl
theorem optX_n : Cn none = (⟨[]⟩, false) := rfl
noncomputable def E4 (n : Nat) : Ctx := ⟨tab, lkC [(17, K3), (9, (Hj n))], 60, lkB [], [], false⟩
theorem R0 (n : Nat) : (E4 n).τ = tab := rfl
theorem ctx_each19_c (n : Nat) : (E4 n).Γ = lkC [(17, K3), (9, (Hj n))] := rfl
theorem ctx_each19_d (n : Nat) : (E4 n).dp = 60 := rfl
theorem ctx_each19_b (n : Nat) : (E4 n).Δ = lkB [] := rfl
theorem ctx_each19_w (n : Nat) : (E4 n).wr = false := rfl
set_option maxRecDepth 100000 in
theorem stepm_each19 (n : Nat) (ih : Gj Tryz.prog (9, Hj n)) : Gj Tryz.prog (35, (Gm n)) := by
  refine ⟨U7 Tryz.func35 (by kernel_rfl) rfl, ?_⟩
  have K : Ky Tryz.prog (E4 n) := Kd K6 Ki (by
    intro p hp
    simp only [List.mem_cons, List.not_mem_nil, or_false] at hp
    rcases hp with rfl | rfl
    · exact Oo
    · exact ih) (by simp)
  obtain ⟨c, hc⟩ : ∃ c, Tryz.f35.body = some c := ⟨_, rfl⟩
  refine Ke K Tryz.func35 hc [.tmp 8, .tmp 9] rfl 50 rfl (fun cvs hpre => ?_)
  change (Gm n).pre cvs at hpre
  unfold Gm at hpre
  obtain ⟨⟨v⟩, ⟨t⟩, ⟨u⟩, lab, rfl, hE⟩ := Ar hpre
  obtain ⟨hv, hn, x, a, b, hvx, hw, rfl, rfl, hal, hbl, hcp⟩ : EachIn n v t u := hE
  have hx : Co v x := ⟨hvx, hw⟩
  have hx1 := hx.tree
  have hxl := hx.at.lt
  have ev := Kf v0 hxl
  have hro := hx.at.root v0
  rw [hro] at ev
  have hk9 := Oj hx (by omega)
  have ta : trees (Mc a) = a := trees_sls fun j hj => by have := (hcp j (by omega)).py.1.wf; rw [M4 hj] at this; exact this
  have tb : trees (Mc b) = b := trees_sls fun j hj => by have := (hcp j (by omega)).pw.1.wf; rw [M4 hj] at this; exact this
  obtain ⟨R, hR⟩ : ∃ R, eachX lab x a b = R := ⟨_, rfl⟩
  have hR2 := hR
  unfold eachX at hR2
  rw [castRs_seq] at hR2
  have hlen := @kid_lenV x
  rw [← hx.1] at hlen
  have hkl := Oi x.kids
  have hvl : v.length = 1 + (ndss x.kids).length := by rw [hx.1, Nc, List.length_cons]; omega
  obtain ⟨ks, hks⟩ : ∃ ks, x.kids = ks := ⟨_, rfl⟩
  rw [hks] at hR2 hkl hvl hk9 hal hbl
  simp only [hks] at hlen hcp
  have hsl : (sls ks).length = ks.length := T0
  have hsa : (Mc a).length = ks.length := by rw [Lb, hal]
  have hsb : (Mc b).length = ks.length := by rw [Lb, hbl]
  obtain ⟨m, hm⟩ : ∃ m, x.root = m := ⟨_, rfl⟩
  rw [hm] at ev hR2 hro
  obtain ⟨cf, hcf⟩ : ∃ cf : Nat → Option (Rose VNode), cf = fun j => castR lab (ks.getD j dv) (a.getD j Gu) (b.getD j Gu) := ⟨_, rfl⟩
  rw [← hcf] at hR2
  have hcl : ∀ j y, cf j = some y → j < ks.length → (nds y).length ≤ 2 * (nds (ks.getD j dv)).length := fun j y h _ => by rw [hcf] at h; exact cast_len h
  have hlens : ∀ {k : Nat} {l : List (Rose VNode)}, Ek cf k = some l → k ≤ ks.length → (ndss l).length ≤ 2000000 := fun {k l} h hk => by
    have := seq_len hcl h hk
    have h2 := take_len (ks := ks) (k := k)
    omega
  clear hpre
  simp only [Tryz.f35, Option.some.injEq] at hc
  subst hc
  refine Kw 3 (of_decide_eq_true (by kernel_rfl)) ?_
  (sym =>
   simp [K7.eq_def,hx1,ev,hro,hk9,Uw,Uz,Uy,Ux,szV,Uu,Us,Uv,Ur,szN,Ut,R0,ctx_each19_c,ctx_each19_d,ctx_each19_b,Hj.eq_def,K3.eq_def,Gm.eq_def,Zb,Zc,Ze,Zf,Zn,Zo,Zp,Zq,Zr,Zv,Zy,Z1,Z9,Qe,Qf,Qq,Qs,Q1,Q2,Q4,Q8,Jb,Jc,Jd,Je,Jf,Jg,Jh,Ji,Jj,Jl,Jw,J3,J4,J5,J6,J8,J9,Xb,Xc,Xd,Xe,Xf,Xn,Xo,Xp,Xu,X4,X6,X8,X9,Wc,Wf,Wh,Wi,Wj,Wn,Wt,Wu,Wv,Ww,Wx,Wy,Wz,W0,W3,W4,W5,W6,W7,Ya,Yb,Ye,Ym,Yq,Yx,Yy,Y0,Y1,Y7,Y8,Y9,Vb,Vc,Vd,Ve,Vf,Vg,Vh,Vj,Vo,Vs,Vt,Vu,V3,V4,V5,V7,V9,Um,Un,Uo,Up,Nx,U8,Ku,Kc,U4,Kr,U3,Kb,Gg]
   tactic =>
    try simp only [U1] at *
    try simp only [nc2] at *
    try simp (maxSteps := 4000000) only [K7.eq_def,hx1,ev,hro,hk9,Uw,Uz,Uy,Ux,szV,Uu,Us,Uv,Ur,szN,Ut,U9]
    repeat' (first | with_reducible assumption | with_reducible refine And.intro ?_ ?_ | intro _ | omega | (rw [U0]; omega))
    refine Km [8, 9, 13, 14, 21, 22, 23, 24, 25, 26, 27, 28, 29, 30, 31, 32, 33, 34, 35, 36, 37, 38, 39, 40, 41, 42, 43, 44, 45, 46, 47, 48] (fun q : Nat × List (Rose VNode) => [(10, .sl 18 ((eL m q.2).map (enc : VNode → D)).length), (12, .d (.int .i64 q.1))]) (fun q : Nat × List (Rose VNode) => [(18, .row 7 ((eL m q.2).map enc) 0)]) (fun q : Nat × List (Rose VNode) => q.1 ≤ ks.length ∧ Ek cf q.1 = some q.2) (fun q : Nat × List (Rose VNode) => ks.length - q.1) (0, []) ?_ ?_ ?_
    · exact ⟨Nat.zero_le _, rfl⟩
    · ((try simp only [U2, Ka, U6, Kg, upd, Kh, Ko, Gd, Nat.reduceDiv, Nat.reduceMod, Nat.reduceMul, Nat.reduceAdd, Nat.reduceEqDiff, List.set_cons_zero, List.set_cons_succ, if_true, if_false, reduceIte]); (first | refine Wk.of_fl ?_ | skip); simp only [Wk, wkK, Gl, wkT, wk1, AV.kept, keptAll, wkO, lk, U5, and_true, true_and, and_self, Nat.reduceEqDiff, Nat.reduceLeDiff, if_true, if_false, reduceIte, reduceCtorEq, Option.isSome, false_implies]; try simp [Wk, wkK, wkT, wk1, AV.kept, keptAll, wkO, lk, U5, eL, ndss])
      all_goals rfl
    rintro ⟨k, ys⟩ ⟨hk, hq⟩
    simp only at hk hq
    have hml := hlens hq hk
    have hml1 := eL_len (m := m) (ys := ys)
    rcases Ks k ks.length with ⟨hlt, hlb⟩ | ⟨hlt, hlb⟩
    · have q1 := Kf (⟨[]⟩ : Sl VNode) (show k < (sls ks).length by omega)
      rw [O6 hlt] at q1
      have q2 := Kf (⟨[]⟩ : Sl Node) (show k < (Mc a).length by omega)
      rw [Od (show k < a.length by omega)] at q2
      have q3 := Kf (⟨[]⟩ : Sl Node) (show k < (Mc b).length by omega)
      rw [Od (show k < b.length by omega)] at q3
      have hck : cf k = castR lab ks[k] (a[k]'(by omega)) (b[k]'(by omega)) := by rw [hcf]; simp [hlt, show k < a.length by omega, show k < b.length by omega]
      have g1 := hcp k hlt
      rw [M4 hlt, M4 (show k < a.length by omega), M4 (show k < b.length by omega)] at g1
      have g2 := hlen hlt
      obtain ⟨z, hz⟩ : ∃ z, ks[k] = z := ⟨_, rfl⟩
      obtain ⟨za, hza⟩ : ∃ za, a[k]'(by omega) = za := ⟨_, rfl⟩
      obtain ⟨zb, hzb⟩ : ∃ zb, b[k]'(by omega) = zb := ⟨_, rfl⟩
      rw [hz] at q1 g1 g2 hck
      rw [hza] at q2 g1 hck
      rw [hzb] at q3 g1 hck
      have tz : K1 arV (nds z) 0 = z := Gq (Ns g1.wf)
      have tza : K1 ar (nds za) 0 = za := Gq (Ns g1.py.1.wf)
      have tzb : K1 ar (nds zb) 0 = zb := Gq (Ns g1.pw.1.wf)
      have hci : CastIn n (nds z) (nds za) (nds zb) := ⟨by omega, by omega, z, za, zb, rfl, rfl, rfl, g1⟩
      cases hcc : castR lab z za zb with
      | none =>
        rw [hcc] at hck
        rw [seqO_none hck hlt] at hR2
        simp only [Option.map_none] at hR2
        subst hR2
        (sym =>
         simp [K7.eq_def,hlb,hsl,q1,q2,q3,tz,tza,tzb,hcc,optX_n,hx1,ta,tb,hR,Uw,Uz,Uy,Ux,szV,Uu,Us,Uv,Ur,szN,Ut,R0,ctx_each19_c,ctx_each19_d,ctx_each19_b,ctx_each19_w,Hj.eq_def,K3.eq_def,Zb,Zc,Ze,Zf,Zg,Zh,Zi,Zj,Zk,Zl,Zm,Zn,Zo,Zp,Zq,Zv,Zy,Z6,Z8,Z9,Qb,Qc,Qd,Qe,Qf,Qg,Qn,Qo,Qp,Qq,Qr,Qs,Q1,Q2,Q4,Q5,Q6,Q8,Q9,Ja,Jf,Ji,Jj,Jk,Jl,Jy,Jz,J0,J5,J6,J8,J9,Xa,Xb,Xc,Xf,Xg,Xu,X3,X4,X5,X6,X7,X8,Wb,Wc,Wd,We,Wf,Wg,Wh,Wi,Wj,Wp,Wq,Wr,Ws,Wt,Wu,Wv,Ww,Wx,Wz,W0,W4,W5,W6,W7,Ya,Yb,Yd,Ye,Yf,Yi,Yj,Ym,Yy,Y0,Y1,Y3,Y6,Y7,Y8,Y9,Vc,Vh,Vj,Vm,Vo,Vq,Vr,Vt,Vu,V5,V7,Uk,Ul,Um,Un,Uo,Up,Uq,Nx,U8,Ku,Kc,U4,Kr,U3,Kb,Gg]
         tactic =>
          try simp only [U1] at *
          try simp only [nc2] at *
          try simp (maxSteps := 4000000) only [K7.eq_def,hlb,hsl,q1,q2,q3,tz,tza,tzb,hcc,optX_n,hx1,ta,tb,hR,Uw,Uz,Uy,Ux,szV,Uu,Us,Uv,Ur,szN,Ut,U9]
          repeat' (first | with_reducible assumption | with_reducible refine And.intro ?_ ?_ | intro _ | omega | (rw [U0]; omega))
          all_goals first
            | (with_reducible refine Kl ?_; kernel_rfl)
            | exact hci
            | omega
            | skip)
      | some yk =>
        rw [hcc] at hck
        have hsn : Ek cf (k + 1) = some (ys ++ [yk]) := by rw [Ek, hq, hck]
        have hml2 := hlens hsn (by omega)
        have hLy := eL_snoc (m := m) (ys := ys) (y := yk)
        have hLl : (eL m (ys ++ [yk])).length = (eL m ys).length + (nds yk).length := by rw [← hLy, List.length_append]
        have hLl2 := eL_len (m := m) (ys := ys ++ [yk])
        (sym =>
         simp [K7.eq_def,hlb,hsl,q1,q2,q3,tz,tza,tzb,hcc,optX_s,Uw,Uz,Uy,Ux,szV,Uu,Us,Uv,Ur,szN,Ut,R0,ctx_each19_c,ctx_each19_b,ctx_each19_w,Hj.eq_def,K3.eq_def,Zb,Zc,Ze,Zf,Zg,Zh,Zi,Zj,Zk,Zl,Zm,Zo,Zp,Zq,Zv,Zy,Z4,Z5,Z6,Z8,Z9,Qb,Qc,Qd,Qe,Qf,Qg,Qq,Qr,Qs,Q1,Q2,Q4,Q5,Q6,Q8,Q9,Ja,Jf,Jh,Ji,Jj,Jl,Jy,Jz,J0,J5,J6,J7,J8,J9,Xa,Xb,Xc,Xf,Xu,X3,X4,X5,X6,X7,X8,Wc,Wd,We,Wf,Wg,Wh,Wi,Wj,Wl,Wp,Wq,Wr,Ws,Wt,Wu,Wv,Ww,Wx,Wz,W0,W4,W5,W6,W7,Ya,Yb,Yd,Ye,Yf,Yi,Yj,Ym,Yy,Y0,Y1,Y3,Y6,Y7,Y8,Y9,Vc,Vh,Vj,Vm,Vo,Vp,Vr,Vt,Vu,V4,Uk,Ul,Um,Un,Uo,Up,Uq,Nx,U8,Ku,Kc,U4,Kr,U3,Kb,Gg]
         tactic =>
          try simp only [U1] at *
          try simp only [nc2] at *
          try simp (maxSteps := 4000000) only [K7.eq_def,hlb,hsl,q1,q2,q3,tz,tza,tzb,hcc,optX_s,Uw,Uz,Uy,Ux,szV,Uu,Us,Uv,Ur,szN,Ut,U9]
          repeat' (first | with_reducible assumption | with_reducible refine And.intro ?_ ?_ | intro _ | omega | (rw [U0]; omega))
          all_goals first
            | (with_reducible refine Kl ?_; kernel_rfl)
            | exact hci
            | omega
            | exact ⟨(k + 1, ys ++ [yk]), by simp only; rw [← hLy]; ((try simp only [U2, Ka, U6, Kg, upd, Kh, Ko, Gd, Nat.reduceDiv, Nat.reduceMod, Nat.reduceMul, Nat.reduceAdd, Nat.reduceEqDiff, List.set_cons_zero, List.set_cons_succ, if_true, if_false, reduceIte]); (first | refine Wk.of_fl ?_ | skip); simp only [Wk, wkK, Gl, wkT, wk1, AV.kept, keptAll, wkO, lk, U5, and_true, true_and, and_self, Nat.reduceEqDiff, Nat.reduceLeDiff, if_true, if_false, reduceIte, reduceCtorEq, Option.isSome, false_implies]; try simp [Wk, wkK, wkT, wk1, AV.kept, keptAll, wkO, lk, U5, List.map_append, List.length_append]), by simp only; omega, hsn, by simp only; omega⟩
            | skip)
    · have hkl2 : k = ks.length := by omega
      rw [hkl2] at hq
      rw [hq] at hR2
      simp only [Option.map_some] at hR2
      have hos : R = (⟨eL m ys⟩, true) := by rw [← hR2, optX_s, Ho]; rfl
      subst hos
      (sym =>
       simp [K7.eq_def,hlb,hsl,hx1,ta,tb,hR,Uw,Uz,Uy,Ux,szV,Uu,Us,Uv,Ur,szN,Ut,R0,ctx_each19_d,Zb,Zc,Ze,Zf,Zg,Zo,Z6,Qb,Qd,Qn,Qo,Qp,Qq,Qs,Q1,Q2,Q4,Q8,Jh,Ji,Jk,Jy,Jz,J0,J5,J6,J7,J8,J9,Xa,Xb,Xc,Xf,Xh,X4,X6,X7,Wa,Wb,Wc,Wf,Wh,Wi,Wj,Wt,Wu,Wv,Ww,Ya,Yb,Yd,Ye,Yi,Y0,Y1,Y6,Y7,Y8,Y9,Va,Vt,Vu,V5,Ul,Um,Un,Uo,Up,Nx,U8,Ku,Kc,U4,Kr,U3,Kb,Gg]
       tactic =>
        try simp only [U1] at *
        try simp only [nc2] at *
        try simp (maxSteps := 4000000) only [K7.eq_def,hlb,hsl,hx1,ta,tb,hR,Uw,Uz,Uy,Ux,szV,Uu,Us,Uv,Ur,szN,Ut,U9]
        repeat' (first | with_reducible assumption | with_reducible refine And.intro ?_ ?_ | intro _ | omega | (rw [U0]; omega))
        all_goals first
          | rfl
          | omega
          | skip))
end Go.Am.Ty
