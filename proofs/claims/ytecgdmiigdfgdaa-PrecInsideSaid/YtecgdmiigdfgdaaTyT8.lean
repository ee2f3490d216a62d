/- Contracts of functions that the laws reach, and plain laws. Conditions: those that each contract states. -/
import Derived.Test.YtecgdmiigdfgdaaTyT7
set_option linter.unusedSimpArgs false
set_option linter.unusedVariables false
set_option maxHeartbeats 1000000
namespace Go.Am.Ty
open Go.Proofs Go.Rose Go.Rose.Rose
open Enc (enc dec)

/-! ### two types, side by side -/
structure Pair where
  a : List Node
  b : List Node
  bel : Bool
def dynOf (b : List Node) : Bool → D
  | true => .clo 42 [.ptr 1 (.list 3 (b.map enc))]
  | false => .clo 46 []
def isBel : D → Bool
  | .clo f _ => f == 42
  | _ => false
instance encPair : Enc Pair := ⟨fun p => .agg [.list 3 (p.a.map enc), .list 3 (p.b.map enc), dynOf p.b p.bel], fun x => match x with
  | .agg [a, b, c] => ⟨a.l.map dec, b.l.map dec, isBel c⟩
  | _ => ⟨[], [], false⟩, fun p => by
    have h : ∀ l : List Node, (l.map (enc : Node → D)).map dec = l := fun l => map_dec_enc
    cases p with
    | mk a b bel => cases bel <;> simp [D.l, h, dynOf, isBel]⟩
theorem enc_Pair {a b : List Node} {bel : Bool} : (enc (Pair.mk a b bel) : D) = .agg [.list 3 (a.map enc), .list 3 (b.map enc), dynOf b bel] := rfl
theorem dynOf_t {b : List Node} : dynOf b true = .clo 42 [.ptr 1 (.list 3 (b.map enc))] := rfl
theorem dynOf_f {b : List Node} : dynOf b false = .clo 46 [] := rfl
theorem dec_PairT {a b : List Node} : (dec (.agg [.list 3 (a.map enc), .list 3 (b.map enc), .clo 42 [.ptr 1 (.list 3 (b.map enc))]]) : Pair) = ⟨a, b, true⟩ := Enc.dec_enc (Pair.mk a b true)
theorem dec_PairF {a b : List Node} : (dec (.agg [.list 3 (a.map enc), .list 3 (b.map enc), .clo 46 []]) : Pair) = ⟨a, b, false⟩ := Enc.dec_enc (Pair.mk a b false)
theorem isE_PairT {a b : List Node} : isE Pair (.agg [.list 3 (a.map enc), .list 3 (b.map enc), .clo 42 [.ptr 1 (.list 3 (b.map enc))]]) = True := eq_true (isE_enc (Pair.mk a b true))
theorem isE_PairF {a b : List Node} : isE Pair (.agg [.list 3 (a.map enc), .list 3 (b.map enc), .clo 46 []]) = True := eq_true (isE_enc (Pair.mk a b false))
theorem dec_PairB {a b : List Node} {bel : Bool} : (dec (.agg [.list 3 (a.map enc), .list 3 (b.map enc), dynOf b bel]) : Pair) = ⟨a, b, bel⟩ := Enc.dec_enc (Pair.mk a b bel)
theorem isE_PairB {a b : List Node} {bel : Bool} : isE Pair (.agg [.list 3 (a.map enc), .list 3 (b.map enc), dynOf b bel]) = True := eq_true (isE_enc (Pair.mk a b bel))
section
variable {a b : List Node} {c : Bool}
theorem Pair_a : (Pair.mk a b c).a = a := rfl
theorem Pair_b : (Pair.mk a b c).b = b := rfl
theorem Pair_c : (Pair.mk a b c).bel = c := rfl
end

/-- What is asked where one of them is a ?. -/
def askB (bel : Bool) (m : Node) : Bool := !bel || m.kind == 0
mutual
/-- Do two trees agree, or does the first one say at least as much? -/
def ov (bel : Bool) : Rose Node → Rose Node → Bool
  | mk n ks, y => cond (n.kind == 0 || y.root.kind == 0) (askB bel y.root) ((n.kind == y.root.kind && (n.name == y.root.name && n.n == y.root.n)) && ovs bel ks y.kids)
def ovs (bel : Bool) : List (Rose Node) → List (Rose Node) → Bool
  | [], _ => true
  | _ :: _, [] => false
  | x :: xs, y :: ys => x.root.name == y.root.name && (ov bel x y && ovs bel xs ys)
end
/-- Three results. -/
def con3q {A B C R S T : Type} [Enc A] [Enc B] [Enc C] [Enc R] [Enc S] [Enc T] (p : A → B → C → Prop) (f : A → B → C → R × S × T) : Con := ⟨[false, false, false], [false, false, false], fun c => match c with
  | [.d x, .d y, .d z] => isE A x ∧ isE B y ∧ isE C z ∧ p (dec x) (dec y) (dec z)
  | _ => False, fun c => match c with
  | [.d x, .d y, .d z] => .tup [.d (enc (f (dec x) (dec y) (dec z)).1), .d (enc (f (dec x) (dec y) (dec z)).2.1), .d (enc (f (dec x) (dec y) (dec z)).2.2)]
  | _ => .d .nilp⟩
theorem con3q_pre {A B C R S T : Type} [Enc A] [Enc B] [Enc C] [Enc R] [Enc S] [Enc T] {p : A → B → C → Prop} {f : A → B → C → R × S × T} {c : List CV} (h : (con3q p f).pre c) : ∃ a b d, c = [.d (enc a), .d (enc b), .d (enc d)] ∧ p a b d := by
  unfold con3q at h
  simp only at h
  split at h
  · next x y z => exact ⟨dec x, dec y, dec z, by rw [← h.1, ← h.2.1, ← h.2.2.1], h.2.2.2⟩
  · exact h.elim
def overR (bel : Bool) (x y : Rose Node) (i k : Int) : Int × Int × Bool :=
  cond (x.root.kind == 0 || y.root.kind == 0) (i + (nds x).length, k + (nds y).length, askB bel y.root)
    (cond (ov bel x y) (i + (nds x).length, k + (nds y).length, true) (0, 0, false))
noncomputable def con_over (n : Nat) : Con := con3q (fun (p : Pair) (i k : Int) => p.a.length ≤ 1000000000 ∧ p.b.length ≤ 1000000000 ∧ 0 ≤ i ∧ 0 ≤ k ∧ ∃ x y, At ar p.a i.toNat x ∧ At ar p.b k.toNat y ∧ (nds x).length < n)
  (fun p i k => overR p.bel (treeAt ar p.a i.toNat) (treeAt ar p.b k.toNat) i k)
theorem con_over_zero : ∀ c, ¬ (con_over 0).pre c := by
  intro c h
  unfold con_over at h
  obtain ⟨_, _, _, _, _, _, _, _, _, _, _, _, h⟩ := con3q_pre h
  omega

def con_AgreeDyn : Con := con2 (fun (_ _ : Int) => True) (fun _ _ => true)
noncomputable def ctx_AgreeDyn : Ctx := ⟨tab, lkC [], 60, lkB [], []⟩
theorem ctx_AgreeDyn_t : ctx_AgreeDyn.τ = tab := rfl
theorem ctx_AgreeDyn_c : ctx_AgreeDyn.Γ = lkC [] := rfl
theorem ctx_AgreeDyn_d : ctx_AgreeDyn.dp = 60 := rfl
theorem ctx_AgreeDyn_b : ctx_AgreeDyn.Δ = lkB [] := rfl
theorem ctx_AgreeDyn_u : ctx_AgreeDyn.cuts = [] := rfl
theorem good_AgreeDyn : Good Try.prog (46, con_AgreeDyn) := by
  refine ⟨enters_of Try.func46 (by kernel_rfl) rfl, ?_⟩
  have K : CtxOk Try.prog ctx_AgreeDyn := ctxOk_of tabOk mixedOk (by simp) (by simp)
  obtain ⟨c, hc⟩ : ∃ c, Try.f46.body = some c := ⟨_, rfl⟩
  refine fn_sound K Try.func46 hc [.tmp 4] rfl 5 rfl (fun cvs hpre => ?_)
  change con_AgreeDyn.pre cvs at hpre
  unfold con_AgreeDyn at hpre
  obtain ⟨i, k, rfl, -⟩ := con2_pre hpre
  simp only [Try.f46, Option.some.injEq] at hc
  subst hc
  (sym =>
     simp [ctx_AgreeDyn_t, ctx_AgreeDyn_c, ctx_AgreeDyn_d, ctx_AgreeDyn_b, ctx_AgreeDyn_u, con_AgreeDyn.eq_def, zaa, zab, zac, zae, zaf, zag, zan, zao, zap, zaq, zar, zas, zav, zbo, zbp, zbq, zbu, zby, zca, zcb, zcc, zcd, zcf, zco, zcp, zcr, zcv, zcx, zdc, zde, zdf, zdg, zdh, zdi, zdv, zdw, zec, zed, zeq, zer, zes, zet, zeu, zev, zew, zex, zey, zez, zfa, zfb, zfc, zff, zfh, zfi, zfj, zfk, zfl, zfm, zfn, zfo, zfu, zfv, zfw, zfx, zfy, zfz, zga, zgc, zgd, zge, zgh, zgi, zgj, zgk, zgl, zgm, zgn, zgo, zgp, zgq, zgr, zgs, zgt, zgu, zgv, zgw, zgx, zgy, zgz, zha, zhb, zhc, zhd, zhe, zhf, zhg, zhh, zhi, zhj, zhk, zhr, zhs, zht, zhu, zhv, zhw, zhx, zhy, zhz, zia, zib, zic, zid, zie, zif, zig, zih, zii, zij, zik, zil, zim, zin, zio, zip, ziq, zir, zis, zit, ziu, ziv, ziw, zix, ziy, ziz, zja, zjb, zjc, zjd, zje, zjf, zjg, zjh, zji, zjj, zjk, zjl, zjm, zjn, zjo, zjp, zjq, zjr, zjs, zjt, zju, zjv, zjw, zjx, zjy, zjz, zka, zkb, zkc, zkd, zke, zkf, zkg, zkh, zki, zkj, zkk, zkq, zkr, zku, zkv, zkw, zkx, zky, zkz, zla, zlb, zlc, zld, zle, zlf, zlg, zlh, zli, zlj, zlk, zll, zlm, zln, zlo, zlp, zlq, zlr, zls, zlt, zlu, zlv, zlw, zlx, zly, zlz, zma, zmb, tab3])
structure PL where
  l : List Node
instance encPL : Enc PL := ⟨fun p => .ptr 1 (.list 3 (p.l.map enc)), fun x => match x with
  | .ptr _ z => ⟨z.l.map dec⟩
  | _ => ⟨[]⟩, fun p => by
    have h : ∀ l : List Node, (l.map (enc : Node → D)).map dec = l := fun l => map_dec_enc
    cases p
    simp [D.l, h]⟩
theorem enc_PL {l : List Node} : (enc (PL.mk l) : D) = .ptr 1 (.list 3 (l.map enc)) := rfl
theorem dec_PL {l : List Node} : (dec (.ptr 1 (.list 3 (l.map enc))) : PL) = ⟨l⟩ := Enc.dec_enc (PL.mk l)
theorem isE_PL {l : List Node} : isE PL (.ptr 1 (.list 3 (l.map enc))) = True := eq_true (isE_enc (PL.mk l))
theorem PL_l {l : List Node} : (PL.mk l).l = l := rfl
def con_BelowDyn : Con := con3 (fun (_ k : Int) (p : PL) => 0 ≤ k ∧ k < p.l.length) (fun _ k p => (p.l.getD k.toNat n0).kind == 0)
noncomputable def ctx_BelowDyn : Ctx := ⟨tab, lkC [], 60, lkB [], []⟩
theorem ctx_BelowDyn_t : ctx_BelowDyn.τ = tab := rfl
theorem ctx_BelowDyn_c : ctx_BelowDyn.Γ = lkC [] := rfl
theorem ctx_BelowDyn_d : ctx_BelowDyn.dp = 60 := rfl
theorem ctx_BelowDyn_b : ctx_BelowDyn.Δ = lkB [] := rfl
theorem ctx_BelowDyn_u : ctx_BelowDyn.cuts = [] := rfl
theorem good_BelowDyn : Good Try.prog (42, con_BelowDyn) := by
  refine ⟨enters_of Try.func42 (by kernel_rfl) rfl, ?_⟩
  have K : CtxOk Try.prog ctx_BelowDyn := ctxOk_of tabOk mixedOk (by simp) (by simp)
  obtain ⟨c, hc⟩ : ∃ c, Try.f42.body = some c := ⟨_, rfl⟩
  refine fn_sound K Try.func42 hc [.tmp 5] rfl 12 rfl (fun cvs hpre => ?_)
  change con_BelowDyn.pre cvs at hpre
  unfold con_BelowDyn at hpre
  obtain ⟨i, k, ⟨l⟩, rfl, h1, h2⟩ := con3_pre hpre
  simp only at h1 h2
  obtain ⟨k, rfl⟩ : ∃ n : Nat, k = n := ⟨k.toNat, by omega⟩
  have hlt : k < l.length := by omega
  simp only [Try.f42, Option.some.injEq] at hc
  subst hc
  have zz1 := el_enc n0 hlt
  (sym =>
     simp [zz1, enc_PL, dec_PL, isE_PL, PL_l, enc_Node, isE_Node, dec_Node, node_eta, szN, eqb_Node, ctx_BelowDyn_t, ctx_BelowDyn_c, ctx_BelowDyn_d, ctx_BelowDyn_b, ctx_BelowDyn_u, con_BelowDyn.eq_def, zaa, zab, zac, zae, zaf, zag, zan, zao, zap, zaq, zar, zas, zav, zax, zaz, zbo, zbp, zbq, zbu, zby, zbz, zca, zcb, zcc, zcd, zcf, zco, zcp, zcr, zcv, zcx, zdc, zde, zdf, zdg, zdh, zdi, zdv, zdw, zec, zed, zeq, zer, zes, zet, zeu, zev, zew, zex, zey, zez, zfa, zfb, zfc, zff, zfh, zfi, zfj, zfk, zfl, zfm, zfn, zfo, zfu, zfv, zfw, zfx, zfy, zfz, zga, zgc, zgd, zge, zgh, zgi, zgj, zgk, zgl, zgm, zgn, zgo, zgp, zgq, zgr, zgs, zgt, zgu, zgv, zgw, zgx, zgy, zgz, zha, zhb, zhc, zhd, zhe, zhf, zhg, zhh, zhi, zhj, zhk, zhr, zhs, zht, zhu, zhv, zhw, zhx, zhy, zhz, zia, zib, zic, zid, zie, zif, zig, zih, zii, zij, zik, zil, zim, zin, zio, zip, ziq, zir, zis, zit, ziu, ziv, ziw, zix, ziy, ziz, zja, zjb, zjc, zjd, zje, zjf, zjg, zjh, zji, zjj, zjk, zjl, zjm, zjn, zjo, zjp, zjq, zjr, zjs, zjt, zju, zjv, zjw, zjx, zjy, zjz, zka, zkb, zkc, zkd, zke, zkf, zkg, zkh, zki, zkj, zkk, zkq, zkr, zku, zkv, zkw, zkx, zky, zkz, zla, zlb, zlc, zld, zle, zlf, zlg, zlh, zli, zlj, zlk, zll, zlm, zln, zlo, zlp, zlq, zlr, zls, zlt, zlu, zlv, zlw, zlx, zly, zlz, zma, zmb, tab3, tab23, tab28]
     tactic =>
      try simp only [ncast] at *
      try simp only [Int.ofNat_eq_natCast] at *
      try simp (config := { maxSteps := 4000000 }) only [zz1, enc_PL, dec_PL, isE_PL, PL_l, enc_Node, isE_Node, dec_Node, node_eta, szN, eqb_Node, con_BelowDyn, Int.ofNat_eq_natCast, con0, con1, con2, con3, con2t, con3t, symD0, symD1, symD2, symD3, symD4, Nat.reduceAdd, Nat.reduceSub, Nat.reduceMul, Nat.reduceMod, Nat.reduceLT, Nat.reduceLeDiff, Nat.reduceEqDiff, Nat.reduceBEq, Obj.isBox, D.setCell, D.asAgg, setAll, allFit, AV.fits, lk, upd, standAt, freeAt, backTo, packD, Nat.reduceDiv, reduceIte, reduceCtorEq, skIs, skAll, SK.is, aggL, eqbAll, D.eqb, Nat.reduceBNe]
      repeat' (first | with_reducible assumption | with_reducible refine And.intro ?_ ?_ | intro _ | omega | (rw [inR_i64]; omega)))

theorem con3q_d {A B C R S T : Type} [Enc A] [Enc B] [Enc C] [Enc R] [Enc S] [Enc T] (p : A → B → C → Prop) (f : A → B → C → R × S × T) : con3q p f = ⟨[false, false, false], [false, false, false], fun c => match c with
  | [.d x, .d y, .d z] => isE A x ∧ isE B y ∧ isE C z ∧ p (dec x) (dec y) (dec z)
  | _ => False, fun c => match c with
  | [.d x, .d y, .d z] => .tup [.d (enc (f (dec x) (dec y) (dec z)).1), .d (enc (f (dec x) (dec y) (dec z)).2.1), .d (enc (f (dec x) (dec y) (dec z)).2.2)]
  | _ => .d .nilp⟩ := rfl
theorem ov_kids {bel : Bool} : ∀ {xs ys : List (Rose Node)}, xs.length = ys.length → (ovs bel xs ys = true ↔ ∀ j, j < xs.length → ∀ (h : j < xs.length) (g : j < ys.length), xs[j].root.name = ys[j].root.name ∧ ov bel xs[j] ys[j] = true)
  | [], [], _ => by simp [ovs]
  | [], _ :: _, h => by simp at h
  | _ :: _, [], h => by simp at h
  | x :: xs, y :: ys, h => by
    simp only [ovs, Bool.and_eq_true, beq_iff_eq]
    rw [ov_kids (by simpa using h)]
    constructor
    · rintro ⟨h1, h2, h3⟩ j hj
      cases j with
      | zero => exact fun _ _ => ⟨h1, h2⟩
      | succ j => exact fun g1 g2 => h3 j (by simpa using g1) (by simpa using g1) (by simpa using g2)
    · intro h4
      have h5 := h4 0 (by simp) (by simp) (by simp)
      exact ⟨h5.1, h5.2, fun j hj g1 g2 => h4 (j + 1) (by simpa using hj) (by simpa using g1) (by simpa using g2)⟩
theorem overR_ok {bel : Bool} {x y : Rose Node} {i k : Int} : (overR bel x y i k).2.2 = ov bel x y := by
  obtain ⟨n, ks⟩ := x
  unfold overR
  cases hd : ((mk n ks).root.kind == 0 || y.root.kind == 0) with
  | true =>
    simp only [cond_true]
    rw [ov]
    rw [show (mk n ks).root = n from rfl] at hd
    rw [hd]
    rfl
  | false =>
    cases ho : ov bel (mk n ks) y <;> simp
theorem overR_t {bel : Bool} {x y : Rose Node} {i k : Nat} (h : ov bel x y = true) : overR bel x y i k = (((i + (nds x).length : Nat) : Int), ((k + (nds y).length : Nat) : Int), true) := by
  have h2 := overR_ok (bel := bel) (x := x) (y := y) (i := i) (k := k)
  rw [h] at h2
  unfold overR at h2 ⊢
  cases hd : (x.root.kind == 0 || y.root.kind == 0) with
  | true =>
    rw [hd] at h2
    simp only [cond_true] at h2 ⊢
    rw [h2]
    simp
  | false => rw [h]; simp
theorem ar_eq {m n : Node} (h1 : m.kind = n.kind) (h2 : m.n = n.n) : ar m = ar n := by unfold ar; rw [h1, h2]
theorem nds_at_lt {xs : List (Rose Node)} {j : Nat} (h : j < xs.length) : (nds xs[j]).length ≤ (ndss xs).length := by
  induction xs generalizing j with
  | nil => simp at h
  | cons x xs ih =>
    simp only [ndss, List.length_append]
    cases j with
    | zero => simp
    | succ j => have := ih (j := j) (by simpa using h); simp only [List.getElem_cons_succ]; omega
noncomputable def ctx_over (n : Nat) : Ctx := ⟨tab, lkC [(45, con_EndT), (75, con_KidsT), (46, con_AgreeDyn), (42, con_BelowDyn), (43, (con_over n))], 60, lkB [], []⟩
theorem ctx_over_t (n : Nat) : (ctx_over n).τ = tab := rfl
theorem ctx_over_c (n : Nat) : (ctx_over n).Γ = lkC [(45, con_EndT), (75, con_KidsT), (46, con_AgreeDyn), (42, con_BelowDyn), (43, (con_over n))] := rfl
theorem ctx_over_d (n : Nat) : (ctx_over n).dp = 60 := rfl
theorem ctx_over_b (n : Nat) : (ctx_over n).Δ = lkB [] := rfl
theorem ctx_over_u (n : Nat) : (ctx_over n).cuts = [] := rfl
set_option maxRecDepth 100000 in
theorem step_over (n : Nat) (ih : Good Try.prog (43, con_over n)) : Good Try.prog (43, (con_over (n + 1))) := by
  refine ⟨enters_of Try.func43 (by kernel_rfl) rfl, ?_⟩
  have K : CtxOk Try.prog (ctx_over n) := ctxOk_of tabOk mixedOk (by
    intro p hp
    simp only [List.mem_cons, List.not_mem_nil, or_false] at hp
    rcases hp with rfl | rfl | rfl | rfl | rfl
    · exact good_EndT
    · exact good_KidsT
    · exact good_AgreeDyn
    · exact good_BelowDyn
    · exact ih) (by simp)
  obtain ⟨c, hc⟩ : ∃ c, Try.f43.body = some c := ⟨_, rfl⟩
  refine fn_sound K Try.func43 hc [.tmp 6, .tmp 7, .tmp 8] rfl 101 rfl (fun cvs hpre => ?_)
  change (con_over (n + 1)).pre cvs at hpre
  unfold con_over at hpre
  obtain ⟨⟨a, b, bel⟩, i, k, rfl, ha, hb, hi0, hk0, x, y, hx, hy, hn⟩ := con3q_pre hpre
  obtain ⟨i, rfl⟩ : ∃ n : Nat, i = n := ⟨i.toNat, by omega⟩
  obtain ⟨k, rfl⟩ : ∃ n : Nat, k = n := ⟨k.toNat, by omega⟩
  simp only [Int.toNat_natCast] at hx hy ha hb
  have hil := hx.lt
  have hkl := hy.lt
  have hix := hx.le
  have hky := hy.le
  have hrx : a.getD i n0 = x.root := hx.root n0
  have hry : b.getD k n0 = y.root := hy.root n0
  have htx : treeAt ar a i = x := treeAt_eq hx
  have hty : treeAt ar b k = y := treeAt_eq hy
  have hex : endT a i = ((i + (nds x).length : Nat) : Int) := endT_at hx
  have hey : endT b k = ((k + (nds y).length : Nat) : Int) := endT_at hy
  have hwx := at_whl hx
  have hwy := at_whl hy
  simp only [Try.f43, Option.some.injEq] at hc
  subst hc
  refine awp_chk 6 (of_decide_eq_true (by kernel_rfl)) ?_
  have hdc : ((x.root.kind == 0) = true ∧ (x.root.kind == 0 || y.root.kind == 0) = true) ∨ ((x.root.kind == 0) = false ∧ (y.root.kind == 0) = true ∧ (x.root.kind == 0 || y.root.kind == 0) = true) ∨ ((x.root.kind == 0) = false ∧ (y.root.kind == 0) = false ∧ (x.root.kind == 0 || y.root.kind == 0) = false) := by
    cases x.root.kind == 0 <;> cases y.root.kind == 0 <;> simp
  have hR : (x.root.kind == 0 || y.root.kind == 0) = true → overR bel x y i k = (((i + (nds x).length : Nat) : Int), ((k + (nds y).length : Nat) : Int), askB bel y.root) := by
    intro hd
    unfold overR; rw [hd]; simp
  rcases hdc with ⟨hd1, hd⟩ | ⟨hd1, hd2, hd⟩ | ⟨hd1, hd2, hd⟩
  · have hRd := hR hd
    cases bel with
    | true =>
      have zz2 := el_enc n0 hil
      have zz3 := el_enc n0 hkl
      (sym =>
         simp [zz2, zz3, hrx, hry, htx, hty, hex, hey, hd1, hRd, dec_PairB, isE_PairB, dec_PL, isE_PL, PL_l, con3q_d, enc_Pair, Pair_a, Pair_b, Pair_c, dynOf_t, dynOf_f, dec_PairT, dec_PairF, isE_PairT, isE_PairF, enc_Node, isE_Node, dec_Node, node_eta, szN, eqb_Node, ctx_over_t, ctx_over_c, ctx_over_d, ctx_over_b, ctx_over_u, con_AgreeDyn.eq_def, con_BelowDyn.eq_def, con_EndT.eq_def, con_KidsT.eq_def, con_over.eq_def, zaa, zab, zac, zad, zae, zaf, zag, zah, zai, zaj, zak, zal, zam, zan, zao, zap, zaq, zar, zas, zat, zau, zav, zaw, zax, zaz, zbh, zbl, zbm, zbn, zbo, zbp, zbq, zbr, zbs, zbt, zbu, zbx, zby, zbz, zca, zcb, zcc, zcd, zce, zcf, zco, zcp, zcr, zcs, zct, zcv, zcw, zcx, zdc, zde, zdf, zdg, zdh, zdi, zdu, zdv, zdw, zdx, zdy, zdz, zec, zed, zee, zef, zeg, zeh, zei, zej, zek, zel, zem, zen, zeq, zer, zes, zet, zeu, zev, zew, zex, zey, zez, zfa, zfb, zfc, zfd, zfe, zff, zfg, zfh, zfi, zfj, zfk, zfl, zfm, zfn, zfo, zfu, zfv, zfw, zfx, zfy, zfz, zga, zgb, zgc, zgd, zge, zgf, zgg, zgh, zgi, zgj, zgk, zgl, zgm, zgn, zgo, zgp, zgq, zgr, zgs, zgt, zgu, zgv, zgw, zgx, zgy, zgz, zha, zhb, zhc, zhd, zhe, zhf, zhg, zhh, zhi, zhj, zhk, zhn, zho, zhp, zhq, zhr, zhs, zht, zhu, zhv, zhw, zhx, zhy, zhz, zia, zib, zic, zid, zie, zif, zig, zih, zii, zij, zik, zil, zim, zin, zio, zip, ziq, zir, zis, zit, ziu, ziv, ziw, zix, ziy, ziz, zja, zjb, zjc, zjd, zje, zjf, zjg, zjh, zji, zjj, zjk, zjl, zjm, zjn, zjo, zjp, zjq, zjr, zjs, zjt, zju, zjv, zjw, zjx, zjy, zjz, zka, zkb, zkc, zkd, zke, zkf, zkg, zkh, zki, zkj, zkk, zkl, zkm, zkn, zko, zkp, zkq, zkr, zku, zkv, zkw, zkx, zky, zkz, zla, zlb, zlc, zld, zle, zlf, zlg, zlh, zli, zlj, zlk, zll, zlm, zln, zlo, zlp, zlq, zlr, zls, zlt, zlu, zlv, zlw, zlx, zly, zlz, zma, zmb, tab3, tab4, tab9, tab23, tab28, tab57, tab59, tab84]
         tactic =>
          try simp only [ncast] at *
          try simp only [Int.ofNat_eq_natCast] at *
          try simp (config := { maxSteps := 4000000 }) only [zz2, zz3, hrx, hry, htx, hty, hex, hey, hd1, hRd, dec_PairB, isE_PairB, dec_PL, isE_PL, PL_l, con3q_d, enc_Pair, Pair_a, Pair_b, Pair_c, dynOf_t, dynOf_f, dec_PairT, dec_PairF, isE_PairT, isE_PairF, enc_Node, isE_Node, dec_Node, node_eta, szN, eqb_Node, con_AgreeDyn, con_BelowDyn, con_EndT, con_KidsT, con_over, Int.ofNat_eq_natCast, con0, con1, con2, con3, con2t, con3t, symD0, symD1, symD2, symD3, symD4, Nat.reduceAdd, Nat.reduceSub, Nat.reduceMul, Nat.reduceMod, Nat.reduceLT, Nat.reduceLeDiff, Nat.reduceEqDiff, Nat.reduceBEq, Obj.isBox, D.setCell, D.asAgg, setAll, allFit, AV.fits, lk, upd, standAt, freeAt, backTo, packD, Nat.reduceDiv, reduceIte, reduceCtorEq, skIs, skAll, SK.is, aggL, eqbAll, D.eqb, Nat.reduceBNe]
          repeat' (first | with_reducible assumption | with_reducible refine And.intro ?_ ?_ | intro _ | omega | (rw [inR_i64]; omega))
          all_goals first
            | (with_reducible refine okD_id ?_; kernel_rfl)
            | rfl)
    | false =>
      have zz4 := el_enc n0 hil
      have zz5 := el_enc n0 hkl
      (sym =>
         simp [zz4, zz5, hrx, hry, htx, hty, hex, hey, hd1, hRd, dec_PairB, isE_PairB, dec_PL, isE_PL, PL_l, con3q_d, enc_Pair, Pair_a, Pair_b, Pair_c, dynOf_t, dynOf_f, dec_PairT, dec_PairF, isE_PairT, isE_PairF, enc_Node, isE_Node, dec_Node, node_eta, szN, eqb_Node, ctx_over_t, ctx_over_c, ctx_over_d, ctx_over_b, ctx_over_u, con_AgreeDyn.eq_def, con_BelowDyn.eq_def, con_EndT.eq_def, con_KidsT.eq_def, con_over.eq_def, zaa, zab, zac, zad, zae, zaf, zag, zah, zai, zaj, zak, zal, zam, zan, zao, zap, zaq, zar, zas, zat, zau, zav, zaw, zax, zaz, zbh, zbl, zbm, zbn, zbo, zbp, zbq, zbr, zbs, zbt, zbu, zbx, zby, zbz, zca, zcb, zcc, zcd, zce, zcf, zco, zcp, zcr, zcs, zct, zcv, zcw, zcx, zdc, zde, zdf, zdg, zdh, zdi, zdu, zdv, zdw, zdx, zdy, zdz, zec, zed, zee, zef, zeg, zeh, zei, zej, zek, zel, zem, zen, zeq, zer, zes, zet, zeu, zev, zew, zex, zey, zez, zfa, zfb, zfc, zfd, zfe, zff, zfg, zfh, zfi, zfj, zfk, zfl, zfm, zfn, zfo, zfu, zfv, zfw, zfx, zfy, zfz, zga, zgb, zgc, zgd, zge, zgf, zgg, zgh, zgi, zgj, zgk, zgl, zgm, zgn, zgo, zgp, zgq, zgr, zgs, zgt, zgu, zgv, zgw, zgx, zgy, zgz, zha, zhb, zhc, zhd, zhe, zhf, zhg, zhh, zhi, zhj, zhk, zhn, zho, zhp, zhq, zhr, zhs, zht, zhu, zhv, zhw, zhx, zhy, zhz, zia, zib, zic, zid, zie, zif, zig, zih, zii, zij, zik, zil, zim, zin, zio, zip, ziq, zir, zis, zit, ziu, ziv, ziw, zix, ziy, ziz, zja, zjb, zjc, zjd, zje, zjf, zjg, zjh, zji, zjj, zjk, zjl, zjm, zjn, zjo, zjp, zjq, zjr, zjs, zjt, zju, zjv, zjw, zjx, zjy, zjz, zka, zkb, zkc, zkd, zke, zkf, zkg, zkh, zki, zkj, zkk, zkl, zkm, zkn, zko, zkp, zkq, zkr, zku, zkv, zkw, zkx, zky, zkz, zla, zlb, zlc, zld, zle, zlf, zlg, zlh, zli, zlj, zlk, zll, zlm, zln, zlo, zlp, zlq, zlr, zls, zlt, zlu, zlv, zlw, zlx, zly, zlz, zma, zmb, tab3, tab4, tab9, tab23, tab28, tab57, tab59, tab84]
         tactic =>
          try simp only [ncast] at *
          try simp only [Int.ofNat_eq_natCast] at *
          try simp (config := { maxSteps := 4000000 }) only [zz4, zz5, hrx, hry, htx, hty, hex, hey, hd1, hRd, dec_PairB, isE_PairB, dec_PL, isE_PL, PL_l, con3q_d, enc_Pair, Pair_a, Pair_b, Pair_c, dynOf_t, dynOf_f, dec_PairT, dec_PairF, isE_PairT, isE_PairF, enc_Node, isE_Node, dec_Node, node_eta, szN, eqb_Node, con_AgreeDyn, con_BelowDyn, con_EndT, con_KidsT, con_over, Int.ofNat_eq_natCast, con0, con1, con2, con3, con2t, con3t, symD0, symD1, symD2, symD3, symD4, Nat.reduceAdd, Nat.reduceSub, Nat.reduceMul, Nat.reduceMod, Nat.reduceLT, Nat.reduceLeDiff, Nat.reduceEqDiff, Nat.reduceBEq, Obj.isBox, D.setCell, D.asAgg, setAll, allFit, AV.fits, lk, upd, standAt, freeAt, backTo, packD, Nat.reduceDiv, reduceIte, reduceCtorEq, skIs, skAll, SK.is, aggL, eqbAll, D.eqb, Nat.reduceBNe]
          repeat' (first | with_reducible assumption | with_reducible refine And.intro ?_ ?_ | intro _ | omega | (rw [inR_i64]; omega))
          all_goals first
            | (with_reducible refine okD_id ?_; kernel_rfl)
            | rfl)
  · have hRd := hR hd
    cases bel with
    | true =>
      have zz6 := el_enc n0 hil
      have zz7 := el_enc n0 hkl
      (sym =>
         simp [zz6, zz7, hrx, hry, htx, hty, hex, hey, hd1, hd2, hRd, dec_PairB, isE_PairB, dec_PL, isE_PL, PL_l, con3q_d, enc_Pair, Pair_a, Pair_b, Pair_c, dynOf_t, dynOf_f, dec_PairT, dec_PairF, isE_PairT, isE_PairF, enc_Node, isE_Node, dec_Node, node_eta, szN, eqb_Node, ctx_over_t, ctx_over_c, ctx_over_d, ctx_over_b, ctx_over_u, con_AgreeDyn.eq_def, con_BelowDyn.eq_def, con_EndT.eq_def, con_KidsT.eq_def, con_over.eq_def, zaa, zab, zac, zad, zae, zaf, zag, zah, zai, zaj, zak, zal, zam, zan, zao, zap, zaq, zar, zas, zat, zau, zav, zaw, zax, zaz, zbh, zbl, zbm, zbn, zbo, zbp, zbq, zbr, zbs, zbt, zbu, zbx, zby, zbz, zca, zcb, zcc, zcd, zce, zcf, zco, zcp, zcr, zcs, zct, zcv, zcw, zcx, zdc, zde, zdf, zdg, zdh, zdi, zdu, zdv, zdw, zdx, zdy, zdz, zec, zed, zee, zef, zeg, zeh, zei, zej, zek, zel, zem, zen, zeq, zer, zes, zet, zeu, zev, zew, zex, zey, zez, zfa, zfb, zfc, zfd, zfe, zff, zfg, zfh, zfi, zfj, zfk, zfl, zfm, zfn, zfo, zfu, zfv, zfw, zfx, zfy, zfz, zga, zgb, zgc, zgd, zge, zgf, zgg, zgh, zgi, zgj, zgk, zgl, zgm, zgn, zgo, zgp, zgq, zgr, zgs, zgt, zgu, zgv, zgw, zgx, zgy, zgz, zha, zhb, zhc, zhd, zhe, zhf, zhg, zhh, zhi, zhj, zhk, zhn, zho, zhp, zhq, zhr, zhs, zht, zhu, zhv, zhw, zhx, zhy, zhz, zia, zib, zic, zid, zie, zif, zig, zih, zii, zij, zik, zil, zim, zin, zio, zip, ziq, zir, zis, zit, ziu, ziv, ziw, zix, ziy, ziz, zja, zjb, zjc, zjd, zje, zjf, zjg, zjh, zji, zjj, zjk, zjl, zjm, zjn, zjo, zjp, zjq, zjr, zjs, zjt, zju, zjv, zjw, zjx, zjy, zjz, zka, zkb, zkc, zkd, zke, zkf, zkg, zkh, zki, zkj, zkk, zkl, zkm, zkn, zko, zkp, zkq, zkr, zku, zkv, zkw, zkx, zky, zkz, zla, zlb, zlc, zld, zle, zlf, zlg, zlh, zli, zlj, zlk, zll, zlm, zln, zlo, zlp, zlq, zlr, zls, zlt, zlu, zlv, zlw, zlx, zly, zlz, zma, zmb, tab3, tab4, tab9, tab23, tab28, tab57, tab59, tab84]
         tactic =>
          try simp only [ncast] at *
          try simp only [Int.ofNat_eq_natCast] at *
          try simp (config := { maxSteps := 4000000 }) only [zz6, zz7, hrx, hry, htx, hty, hex, hey, hd1, hd2, hRd, dec_PairB, isE_PairB, dec_PL, isE_PL, PL_l, con3q_d, enc_Pair, Pair_a, Pair_b, Pair_c, dynOf_t, dynOf_f, dec_PairT, dec_PairF, isE_PairT, isE_PairF, enc_Node, isE_Node, dec_Node, node_eta, szN, eqb_Node, con_AgreeDyn, con_BelowDyn, con_EndT, con_KidsT, con_over, Int.ofNat_eq_natCast, con0, con1, con2, con3, con2t, con3t, symD0, symD1, symD2, symD3, symD4, Nat.reduceAdd, Nat.reduceSub, Nat.reduceMul, Nat.reduceMod, Nat.reduceLT, Nat.reduceLeDiff, Nat.reduceEqDiff, Nat.reduceBEq, Obj.isBox, D.setCell, D.asAgg, setAll, allFit, AV.fits, lk, upd, standAt, freeAt, backTo, packD, Nat.reduceDiv, reduceIte, reduceCtorEq, skIs, skAll, SK.is, aggL, eqbAll, D.eqb, Nat.reduceBNe]
          repeat' (first | with_reducible assumption | with_reducible refine And.intro ?_ ?_ | intro _ | omega | (rw [inR_i64]; omega))
          all_goals first
            | (with_reducible refine okD_id ?_; kernel_rfl)
            | (unfold askB; simp_all))
    | false =>
      have zz8 := el_enc n0 hil
      have zz9 := el_enc n0 hkl
      (sym =>
         simp [zz8, zz9, hrx, hry, htx, hty, hex, hey, hd1, hd2, hRd, dec_PairB, isE_PairB, dec_PL, isE_PL, PL_l, con3q_d, enc_Pair, Pair_a, Pair_b, Pair_c, dynOf_t, dynOf_f, dec_PairT, dec_PairF, isE_PairT, isE_PairF, enc_Node, isE_Node, dec_Node, node_eta, szN, eqb_Node, ctx_over_t, ctx_over_c, ctx_over_d, ctx_over_b, ctx_over_u, con_AgreeDyn.eq_def, con_BelowDyn.eq_def, con_EndT.eq_def, con_KidsT.eq_def, con_over.eq_def, zaa, zab, zac, zad, zae, zaf, zag, zah, zai, zaj, zak, zal, zam, zan, zao, zap, zaq, zar, zas, zat, zau, zav, zaw, zax, zaz, zbh, zbl, zbm, zbn, zbo, zbp, zbq, zbr, zbs, zbt, zbu, zbx, zby, zbz, zca, zcb, zcc, zcd, zce, zcf, zco, zcp, zcr, zcs, zct, zcv, zcw, zcx, zdc, zde, zdf, zdg, zdh, zdi, zdu, zdv, zdw, zdx, zdy, zdz, zec, zed, zee, zef, zeg, zeh, zei, zej, zek, zel, zem, zen, zeq, zer, zes, zet, zeu, zev, zew, zex, zey, zez, zfa, zfb, zfc, zfd, zfe, zff, zfg, zfh, zfi, zfj, zfk, zfl, zfm, zfn, zfo, zfu, zfv, zfw, zfx, zfy, zfz, zga, zgb, zgc, zgd, zge, zgf, zgg, zgh, zgi, zgj, zgk, zgl, zgm, zgn, zgo, zgp, zgq, zgr, zgs, zgt, zgu, zgv, zgw, zgx, zgy, zgz, zha, zhb, zhc, zhd, zhe, zhf, zhg, zhh, zhi, zhj, zhk, zhn, zho, zhp, zhq, zhr, zhs, zht, zhu, zhv, zhw, zhx, zhy, zhz, zia, zib, zic, zid, zie, zif, zig, zih, zii, zij, zik, zil, zim, zin, zio, zip, ziq, zir, zis, zit, ziu, ziv, ziw, zix, ziy, ziz, zja, zjb, zjc, zjd, zje, zjf, zjg, zjh, zji, zjj, zjk, zjl, zjm, zjn, zjo, zjp, zjq, zjr, zjs, zjt, zju, zjv, zjw, zjx, zjy, zjz, zka, zkb, zkc, zkd, zke, zkf, zkg, zkh, zki, zkj, zkk, zkl, zkm, zkn, zko, zkp, zkq, zkr, zku, zkv, zkw, zkx, zky, zkz, zla, zlb, zlc, zld, zle, zlf, zlg, zlh, zli, zlj, zlk, zll, zlm, zln, zlo, zlp, zlq, zlr, zls, zlt, zlu, zlv, zlw, zlx, zly, zlz, zma, zmb, tab3, tab4, tab9, tab23, tab28, tab57, tab59, tab84]
         tactic =>
          try simp only [ncast] at *
          try simp only [Int.ofNat_eq_natCast] at *
          try simp (config := { maxSteps := 4000000 }) only [zz8, zz9, hrx, hry, htx, hty, hex, hey, hd1, hd2, hRd, dec_PairB, isE_PairB, dec_PL, isE_PL, PL_l, con3q_d, enc_Pair, Pair_a, Pair_b, Pair_c, dynOf_t, dynOf_f, dec_PairT, dec_PairF, isE_PairT, isE_PairF, enc_Node, isE_Node, dec_Node, node_eta, szN, eqb_Node, con_AgreeDyn, con_BelowDyn, con_EndT, con_KidsT, con_over, Int.ofNat_eq_natCast, con0, con1, con2, con3, con2t, con3t, symD0, symD1, symD2, symD3, symD4, Nat.reduceAdd, Nat.reduceSub, Nat.reduceMul, Nat.reduceMod, Nat.reduceLT, Nat.reduceLeDiff, Nat.reduceEqDiff, Nat.reduceBEq, Obj.isBox, D.setCell, D.asAgg, setAll, allFit, AV.fits, lk, upd, standAt, freeAt, backTo, packD, Nat.reduceDiv, reduceIte, reduceCtorEq, skIs, skAll, SK.is, aggL, eqbAll, D.eqb, Nat.reduceBNe]
          repeat' (first | with_reducible assumption | with_reducible refine And.intro ?_ ?_ | intro _ | omega | (rw [inR_i64]; omega))
          all_goals first
            | (with_reducible refine okD_id ?_; kernel_rfl)
            | rfl)
  · obtain ⟨hks, hkn⟩ := hx.kids
    obtain ⟨hqs, hqn⟩ := hy.kids
    obtain ⟨xs, hxs⟩ : ∃ xs, x.kids = xs := ⟨_, rfl⟩
    obtain ⟨ys, hys⟩ : ∃ ys, y.kids = ys := ⟨_, rfl⟩
    have hov : ov bel x y = ((x.root.kind == y.root.kind && (x.root.name == y.root.name && x.root.n == y.root.n)) && ovs bel xs ys) := by
      obtain ⟨m, zs⟩ := x
      rw [ov]
      rw [show (mk m zs).root = m from rfl] at hd
      rw [hd, hys, show zs = xs from hxs]
      rfl
    have hRo : overR bel x y i k = cond (ov bel x y) (((i + (nds x).length : Nat) : Int), ((k + (nds y).length : Nat) : Int), true) (0, 0, false) := by
      unfold overR; rw [hd]; simp
    have hkids : kidsT a i = kidPos (i + 1) xs := by
      unfold kidsT
      rw [if_neg (by omega)]
      simp only [Int.toNat_natCast]
      rw [htx, hxs]
    have hklen : (kidsT a i).length = xs.length := by rw [hkids, kidPos_len]
    have htree : Tree a i := fun _ _ => ⟨x, by simpa using hx⟩
    have hbadR : ov bel x y = false → overR bel x y i k = (0, 0, false) := by
      intro h; rw [hRo, h]; rfl
    have hsame : (x.root.kind == y.root.kind && (x.root.name == y.root.name && x.root.n == y.root.n)) = true → xs.length = ys.length := by
      intro h
      simp only [Bool.and_eq_true, beq_iff_eq] at h
      rw [hxs] at hkn
      rw [hys] at hqn
      rw [hkn, hqn, ar_eq h.1 h.2.2]
    rw [hxs] at hks
    rw [hys] at hqs
    have hle := ats_le hks (by omega)
    have hnx : (nds x).length = 1 + (ndss xs).length := by rw [nds_eta, hxs, List.length_cons]; omega
    have hny : (nds y).length = 1 + (ndss ys).length := by rw [nds_eta, hys, List.length_cons]; omega
    have hxl : xs.length ≤ 1000000000 := by
      have := kidPos_len (i + 1) xs
      have h2 : xs.length ≤ (ndss xs).length := by
        clear hks hle hov hkids hklen hbadR hRo hsame hxs hnx this
        induction xs with
        | nil => simp
        | cons z zs ih => simp only [List.length_cons, ndss, List.length_append]; have := nds_pos z; omega
      omega
    by_cases hk1 : x.root.kind = y.root.kind ∧ x.root.name = y.root.name ∧ x.root.n = y.root.n
    · obtain ⟨e1, e2, e3⟩ := hk1
      have b1 : (x.root.kind != y.root.kind) = false := by simp [e1]
      have b2 : (x.root.name == y.root.name) = true := by simp [e2]
      have b3 : (x.root.n != y.root.n) = false := by simp [e3]
      have c1 : (x.root.kind == y.root.kind) = true := by simp [e1]
      have c3 : (x.root.n == y.root.n) = true := by simp [e3]
      have hlen : xs.length = ys.length := hsame (by simp [e1, e2, e3])
      rw [c1, b2, c3, Bool.true_and, Bool.true_and, Bool.true_and] at hov
      have zz10 := el_enc n0 hil
      have zz11 := el_enc n0 hkl
      (sym =>
         simp [zz10, zz11, hrx, hry, htx, hty, hd1, hd2, b1, b2, b3, hklen, dec_PairB, isE_PairB, dec_PL, isE_PL, PL_l, con3q_d, enc_Pair, Pair_a, Pair_b, Pair_c, dynOf_t, dynOf_f, dec_PairT, dec_PairF, isE_PairT, isE_PairF, enc_Node, isE_Node, dec_Node, node_eta, szN, eqb_Node, ctx_over_t, ctx_over_c, ctx_over_d, ctx_over_b, ctx_over_u, con_AgreeDyn.eq_def, con_BelowDyn.eq_def, con_EndT.eq_def, con_KidsT.eq_def, con_over.eq_def, zaa, zab, zac, zad, zae, zaf, zag, zah, zai, zaj, zak, zal, zam, zan, zao, zap, zaq, zar, zas, zat, zau, zav, zaw, zax, zaz, zbh, zbl, zbm, zbn, zbo, zbp, zbq, zbr, zbs, zbt, zbu, zbx, zby, zbz, zca, zcb, zcc, zcd, zce, zcf, zco, zcp, zcr, zcs, zct, zcv, zcw, zcx, zdc, zde, zdf, zdg, zdh, zdi, zdu, zdv, zdw, zdx, zdy, zdz, zec, zed, zee, zef, zeg, zeh, zei, zej, zek, zel, zem, zen, zeq, zer, zes, zet, zeu, zev, zew, zex, zey, zez, zfa, zfb, zfc, zfd, zfe, zff, zfg, zfh, zfi, zfj, zfk, zfl, zfm, zfn, zfo, zfu, zfv, zfw, zfx, zfy, zfz, zga, zgb, zgc, zgd, zge, zgf, zgg, zgh, zgi, zgj, zgk, zgl, zgm, zgn, zgo, zgp, zgq, zgr, zgs, zgt, zgu, zgv, zgw, zgx, zgy, zgz, zha, zhb, zhc, zhd, zhe, zhf, zhg, zhh, zhi, zhj, zhk, zhn, zho, zhp, zhq, zhr, zhs, zht, zhu, zhv, zhw, zhx, zhy, zhz, zia, zib, zic, zid, zie, zif, zig, zih, zii, zij, zik, zil, zim, zin, zio, zip, ziq, zir, zis, zit, ziu, ziv, ziw, zix, ziy, ziz, zja, zjb, zjc, zjd, zje, zjf, zjg, zjh, zji, zjj, zjk, zjl, zjm, zjn, zjo, zjp, zjq, zjr, zjs, zjt, zju, zjv, zjw, zjx, zjy, zjz, zka, zkb, zkc, zkd, zke, zkf, zkg, zkh, zki, zkj, zkk, zkl, zkm, zkn, zko, zkp, zkq, zkr, zku, zkv, zkw, zkx, zky, zkz, zla, zlb, zlc, zld, zle, zlf, zlg, zlh, zli, zlj, zlk, zll, zlm, zln, zlo, zlp, zlq, zlr, zls, zlt, zlu, zlv, zlw, zlx, zly, zlz, zma, zmb, tab3, tab4, tab9, tab23, tab28, tab57, tab59, tab84]
         tactic =>
          try simp only [ncast] at *
          try simp only [Int.ofNat_eq_natCast] at *
          try simp (config := { maxSteps := 4000000 }) only [zz10, zz11, hrx, hry, htx, hty, hd1, hd2, b1, b2, b3, hklen, dec_PairB, isE_PairB, dec_PL, isE_PL, PL_l, con3q_d, enc_Pair, Pair_a, Pair_b, Pair_c, dynOf_t, dynOf_f, dec_PairT, dec_PairF, isE_PairT, isE_PairF, enc_Node, isE_Node, dec_Node, node_eta, szN, eqb_Node, con_AgreeDyn, con_BelowDyn, con_EndT, con_KidsT, con_over, Int.ofNat_eq_natCast, con0, con1, con2, con3, con2t, con3t, symD0, symD1, symD2, symD3, symD4, Nat.reduceAdd, Nat.reduceSub, Nat.reduceMul, Nat.reduceMod, Nat.reduceLT, Nat.reduceLeDiff, Nat.reduceEqDiff, Nat.reduceBEq, Obj.isBox, D.setCell, D.asAgg, setAll, allFit, AV.fits, lk, upd, standAt, freeAt, backTo, packD, Nat.reduceDiv, reduceIte, reduceCtorEq, skIs, skAll, SK.is, aggL, eqbAll, D.eqb, Nat.reduceBNe]
          repeat' (first | with_reducible assumption | with_reducible refine And.intro ?_ ?_ | intro _ | omega | (rw [inR_i64]; omega))
          all_goals first
            | (with_reducible refine okD_id ?_; kernel_rfl)
            | skip
          refine aLoop_kill [6, 7, 8, 12, 74, 75, 76, 77, 78, 79, 80, 81, 82, 83, 84, 85, 86, 87, 88, 89, 90, 91, 92, 93, 94, 95, 96, 97, 98] (fun j : Nat => [(1, .d (.int .i64 (i + 1 + (ndss (xs.take j)).length : Nat))), (2, .d (.int .i64 (k + 1 + (ndss (ys.take j)).length : Nat))), (73, .d (.int .i64 j))]) (fun j : Nat => []) (fun j : Nat => j ≤ xs.length ∧ ∀ p, p < j → ∀ (h : p < xs.length) (g : p < ys.length), xs[p].root.name = ys[p].root.name ∧ ov bel xs[p] ys[p] = true) (fun j : Nat => xs.length - j) 0 ?_ ?_ ?_
          · exact ⟨Nat.zero_le _, fun p hp => absurd hp (by omega)⟩
          · ((try simp only [atHead_mk, killAll, setSlots, updAll, upd, set_fl, setCs, putC, Nat.reduceDiv, Nat.reduceMod, Nat.reduceMul, Nat.reduceAdd, Nat.reduceEqDiff, List.set_cons_zero, List.set_cons_succ, if_true, if_false, reduceIte]); (first | refine Wk.of_fl ?_ | skip); simp only [Wk, wkK, wkCs, wkT, wk1, AV.kept, keptAll, wkO, lk, wkObj, and_true, true_and, and_self, Nat.reduceEqDiff, Nat.reduceLeDiff, if_true, if_false, reduceIte, reduceCtorEq, Option.isSome, false_implies]; try simp [Wk, wkK, wkT, wk1, AV.kept, keptAll, wkO, lk, wkObj, ndss])
          rintro j ⟨hj, hno⟩
          rcases ltB_cases j xs.length with ⟨hlt, hlb⟩ | ⟨hlt, hlb⟩
          · have hlt' : j < ys.length := by omega
            have hax := ats_at hks hlt
            have hay := ats_at hqs hlt'
            have hnr : (nds xs[j]).length < n := by have := nds_at_lt hlt; omega
            obtain ⟨xj, hxj⟩ : ∃ z, xs[j] = z := ⟨_, rfl⟩
            obtain ⟨yj, hyj⟩ : ∃ z, ys[j] = z := ⟨_, rfl⟩
            have hsx := ndss_take_succ hlt
            have hsy := ndss_take_succ hlt'
            rw [hxj] at hax hnr hsx
            rw [hyj] at hay hsy
            have hgo : xj.root.name = yj.root.name → ov bel xj yj = true → ∀ p, p < j + 1 → ∀ (h : p < xs.length) (g : p < ys.length), xs[p].root.name = ys[p].root.name ∧ ov bel xs[p] ys[p] = true := by
              intro g1 g2 p hp h g
              by_cases hpj : p = j
              · subst hpj; rw [hxj, hyj]; exact ⟨g1, g2⟩
              · exact hno p (by omega) h g
            have hst : ¬ (xj.root.name = yj.root.name ∧ ov bel xj yj = true) → ov bel x y = false := by
              intro h
              rw [hov, Bool.eq_false_iff]
              intro hc
              have := (ov_kids hlen).1 hc j hlt hlt hlt'
              rw [hxj, hyj] at this
              exact h this
            obtain ⟨I, hI⟩ : ∃ I, i + 1 + (ndss (xs.take j)).length = I := ⟨_, rfl⟩
            obtain ⟨J, hJ⟩ : ∃ I, k + 1 + (ndss (ys.take j)).length = I := ⟨_, rfl⟩
            rw [hI] at hax
            rw [hJ] at hay
            have hIl := hax.lt
            have hJl := hay.lt
            have hrx2 : a.getD I n0 = xj.root := hax.root n0
            have hry2 : b.getD J n0 = yj.root := hay.root n0
            have htx2 : treeAt ar a I = xj := treeAt_eq hax
            have hty2 : treeAt ar b J = yj := treeAt_eq hay
            have hrec : ∃ x y, At ar a I x ∧ At ar b J y ∧ (nds x).length < n := ⟨xj, yj, hax, hay, hnr⟩
            cases hnm : (xj.root.name == yj.root.name) with
            | false =>
              have hz := hbadR (hst fun h => by rw [beq_eq_false_iff_ne] at hnm; exact hnm h.1)
              have zz12 := el_enc n0 hIl
              have zz13 := el_enc n0 hJl
              (sym =>
                 simp [hlb, hI, hJ, zz12, zz13, hrx2, hry2, hnm, htx, hty, hz, dec_PairB, isE_PairB, dec_PL, isE_PL, PL_l, con3q_d, enc_Pair, Pair_a, Pair_b, Pair_c, dynOf_t, dynOf_f, dec_PairT, dec_PairF, isE_PairT, isE_PairF, enc_Node, isE_Node, dec_Node, node_eta, szN, eqb_Node, ctx_over_t, ctx_over_c, ctx_over_d, ctx_over_b, ctx_over_u, con_AgreeDyn.eq_def, con_BelowDyn.eq_def, con_EndT.eq_def, con_KidsT.eq_def, con_over.eq_def, zaa, zab, zac, zad, zae, zaf, zag, zah, zai, zaj, zak, zal, zam, zan, zao, zap, zaq, zar, zas, zat, zau, zav, zaw, zax, zaz, zbh, zbl, zbm, zbn, zbo, zbp, zbq, zbr, zbs, zbt, zbu, zbx, zby, zbz, zca, zcb, zcc, zcd, zce, zcf, zco, zcp, zcr, zcs, zct, zcv, zcw, zcx, zdc, zde, zdf, zdg, zdh, zdi, zdu, zdv, zdw, zdx, zdy, zdz, zec, zed, zee, zef, zeg, zeh, zei, zej, zek, zel, zem, zen, zeq, zer, zes, zet, zeu, zev, zew, zex, zey, zez, zfa, zfb, zfc, zfd, zfe, zff, zfg, zfh, zfi, zfj, zfk, zfl, zfm, zfn, zfo, zfu, zfv, zfw, zfx, zfy, zfz, zga, zgb, zgc, zgd, zge, zgf, zgg, zgh, zgi, zgj, zgk, zgl, zgm, zgn, zgo, zgp, zgq, zgr, zgs, zgt, zgu, zgv, zgw, zgx, zgy, zgz, zha, zhb, zhc, zhd, zhe, zhf, zhg, zhh, zhi, zhj, zhk, zhn, zho, zhp, zhq, zhr, zhs, zht, zhu, zhv, zhw, zhx, zhy, zhz, zia, zib, zic, zid, zie, zif, zig, zih, zii, zij, zik, zil, zim, zin, zio, zip, ziq, zir, zis, zit, ziu, ziv, ziw, zix, ziy, ziz, zja, zjb, zjc, zjd, zje, zjf, zjg, zjh, zji, zjj, zjk, zjl, zjm, zjn, zjo, zjp, zjq, zjr, zjs, zjt, zju, zjv, zjw, zjx, zjy, zjz, zka, zkb, zkc, zkd, zke, zkf, zkg, zkh, zki, zkj, zkk, zkl, zkm, zkn, zko, zkp, zkq, zkr, zku, zkv, zkw, zkx, zky, zkz, zla, zlb, zlc, zld, zle, zlf, zlg, zlh, zli, zlj, zlk, zll, zlm, zln, zlo, zlp, zlq, zlr, zls, zlt, zlu, zlv, zlw, zlx, zly, zlz, zma, zmb, tab3, tab4, tab9, tab23, tab28, tab57, tab59, tab84]
                 tactic =>
                  try simp only [ncast] at *
                  try simp only [Int.ofNat_eq_natCast] at *
                  try simp (config := { maxSteps := 4000000 }) only [hlb, hI, hJ, zz12, zz13, hrx2, hry2, hnm, htx, hty, hz, dec_PairB, isE_PairB, dec_PL, isE_PL, PL_l, con3q_d, enc_Pair, Pair_a, Pair_b, Pair_c, dynOf_t, dynOf_f, dec_PairT, dec_PairF, isE_PairT, isE_PairF, enc_Node, isE_Node, dec_Node, node_eta, szN, eqb_Node, con_AgreeDyn, con_BelowDyn, con_EndT, con_KidsT, con_over, Int.ofNat_eq_natCast, con0, con1, con2, con3, con2t, con3t, symD0, symD1, symD2, symD3, symD4, Nat.reduceAdd, Nat.reduceSub, Nat.reduceMul, Nat.reduceMod, Nat.reduceLT, Nat.reduceLeDiff, Nat.reduceEqDiff, Nat.reduceBEq, Obj.isBox, D.setCell, D.asAgg, setAll, allFit, AV.fits, lk, upd, standAt, freeAt, backTo, packD, Nat.reduceDiv, reduceIte, reduceCtorEq, skIs, skAll, SK.is, aggL, eqbAll, D.eqb, Nat.reduceBNe]
                  repeat' (first | with_reducible assumption | with_reducible refine And.intro ?_ ?_ | intro _ | omega | (rw [inR_i64]; omega))
                  all_goals (with_reducible refine okD_id ?_; kernel_rfl))
            | true =>
              have hnm' := hnm
              rw [beq_iff_eq] at hnm'
              cases ho : ov bel xj yj with
              | false =>
                have hz := hbadR (hst fun h => by rw [ho] at h; cases h.2)
                have h22 : (overR bel xj yj (I : Int) (J : Int)).2.2 = false := by rw [overR_ok, ho]
                cases bel with
                | true =>
                  have zz14 := el_enc n0 hIl
                  have zz15 := el_enc n0 hJl
                  (sym =>
                     simp [hlb, hI, hJ, zz14, zz15, hrx2, hry2, htx2, hty2, hnm, htx, hty, h22, hz, dec_PairB, isE_PairB, dec_PL, isE_PL, PL_l, con3q_d, enc_Pair, Pair_a, Pair_b, Pair_c, dynOf_t, dynOf_f, dec_PairT, dec_PairF, isE_PairT, isE_PairF, enc_Node, isE_Node, dec_Node, node_eta, szN, eqb_Node, ctx_over_t, ctx_over_c, ctx_over_d, ctx_over_b, ctx_over_u, con_AgreeDyn.eq_def, con_BelowDyn.eq_def, con_EndT.eq_def, con_KidsT.eq_def, con_over.eq_def, zaa, zab, zac, zad, zae, zaf, zag, zah, zai, zaj, zak, zal, zam, zan, zao, zap, zaq, zar, zas, zat, zau, zav, zaw, zax, zaz, zbh, zbl, zbm, zbn, zbo, zbp, zbq, zbr, zbs, zbt, zbu, zbx, zby, zbz, zca, zcb, zcc, zcd, zce, zcf, zco, zcp, zcr, zcs, zct, zcv, zcw, zcx, zdc, zde, zdf, zdg, zdh, zdi, zdu, zdv, zdw, zdx, zdy, zdz, zec, zed, zee, zef, zeg, zeh, zei, zej, zek, zel, zem, zen, zeq, zer, zes, zet, zeu, zev, zew, zex, zey, zez, zfa, zfb, zfc, zfd, zfe, zff, zfg, zfh, zfi, zfj, zfk, zfl, zfm, zfn, zfo, zfu, zfv, zfw, zfx, zfy, zfz, zga, zgb, zgc, zgd, zge, zgf, zgg, zgh, zgi, zgj, zgk, zgl, zgm, zgn, zgo, zgp, zgq, zgr, zgs, zgt, zgu, zgv, zgw, zgx, zgy, zgz, zha, zhb, zhc, zhd, zhe, zhf, zhg, zhh, zhi, zhj, zhk, zhn, zho, zhp, zhq, zhr, zhs, zht, zhu, zhv, zhw, zhx, zhy, zhz, zia, zib, zic, zid, zie, zif, zig, zih, zii, zij, zik, zil, zim, zin, zio, zip, ziq, zir, zis, zit, ziu, ziv, ziw, zix, ziy, ziz, zja, zjb, zjc, zjd, zje, zjf, zjg, zjh, zji, zjj, zjk, zjl, zjm, zjn, zjo, zjp, zjq, zjr, zjs, zjt, zju, zjv, zjw, zjx, zjy, zjz, zka, zkb, zkc, zkd, zke, zkf, zkg, zkh, zki, zkj, zkk, zkl, zkm, zkn, zko, zkp, zkq, zkr, zku, zkv, zkw, zkx, zky, zkz, zla, zlb, zlc, zld, zle, zlf, zlg, zlh, zli, zlj, zlk, zll, zlm, zln, zlo, zlp, zlq, zlr, zls, zlt, zlu, zlv, zlw, zlx, zly, zlz, zma, zmb, tab3, tab4, tab9, tab23, tab28, tab57, tab59, tab84]
                     tactic =>
                      try simp only [ncast] at *
                      try simp only [Int.ofNat_eq_natCast] at *
                      try simp (config := { maxSteps := 4000000 }) only [hlb, hI, hJ, zz14, zz15, hrx2, hry2, htx2, hty2, hnm, htx, hty, h22, hz, dec_PairB, isE_PairB, dec_PL, isE_PL, PL_l, con3q_d, enc_Pair, Pair_a, Pair_b, Pair_c, dynOf_t, dynOf_f, dec_PairT, dec_PairF, isE_PairT, isE_PairF, enc_Node, isE_Node, dec_Node, node_eta, szN, eqb_Node, con_AgreeDyn, con_BelowDyn, con_EndT, con_KidsT, con_over, Int.ofNat_eq_natCast, con0, con1, con2, con3, con2t, con3t, symD0, symD1, symD2, symD3, symD4, Nat.reduceAdd, Nat.reduceSub, Nat.reduceMul, Nat.reduceMod, Nat.reduceLT, Nat.reduceLeDiff, Nat.reduceEqDiff, Nat.reduceBEq, Obj.isBox, D.setCell, D.asAgg, setAll, allFit, AV.fits, lk, upd, standAt, freeAt, backTo, packD, Nat.reduceDiv, reduceIte, reduceCtorEq, skIs, skAll, SK.is, aggL, eqbAll, D.eqb, Nat.reduceBNe]
                      repeat' (first | with_reducible assumption | with_reducible refine And.intro ?_ ?_ | intro _ | omega | (rw [inR_i64]; omega))
                      all_goals (with_reducible refine okD_id ?_; kernel_rfl))
                | false =>
                  have zz16 := el_enc n0 hIl
                  have zz17 := el_enc n0 hJl
                  (sym =>
                     simp [hlb, hI, hJ, zz16, zz17, hrx2, hry2, htx2, hty2, hnm, htx, hty, h22, hz, dec_PairB, isE_PairB, dec_PL, isE_PL, PL_l, con3q_d, enc_Pair, Pair_a, Pair_b, Pair_c, dynOf_t, dynOf_f, dec_PairT, dec_PairF, isE_PairT, isE_PairF, enc_Node, isE_Node, dec_Node, node_eta, szN, eqb_Node, ctx_over_t, ctx_over_c, ctx_over_d, ctx_over_b, ctx_over_u, con_AgreeDyn.eq_def, con_BelowDyn.eq_def, con_EndT.eq_def, con_KidsT.eq_def, con_over.eq_def, zaa, zab, zac, zad, zae, zaf, zag, zah, zai, zaj, zak, zal, zam, zan, zao, zap, zaq, zar, zas, zat, zau, zav, zaw, zax, zaz, zbh, zbl, zbm, zbn, zbo, zbp, zbq, zbr, zbs, zbt, zbu, zbx, zby, zbz, zca, zcb, zcc, zcd, zce, zcf, zco, zcp, zcr, zcs, zct, zcv, zcw, zcx, zdc, zde, zdf, zdg, zdh, zdi, zdu, zdv, zdw, zdx, zdy, zdz, zec, zed, zee, zef, zeg, zeh, zei, zej, zek, zel, zem, zen, zeq, zer, zes, zet, zeu, zev, zew, zex, zey, zez, zfa, zfb, zfc, zfd, zfe, zff, zfg, zfh, zfi, zfj, zfk, zfl, zfm, zfn, zfo, zfu, zfv, zfw, zfx, zfy, zfz, zga, zgb, zgc, zgd, zge, zgf, zgg, zgh, zgi, zgj, zgk, zgl, zgm, zgn, zgo, zgp, zgq, zgr, zgs, zgt, zgu, zgv, zgw, zgx, zgy, zgz, zha, zhb, zhc, zhd, zhe, zhf, zhg, zhh, zhi, zhj, zhk, zhn, zho, zhp, zhq, zhr, zhs, zht, zhu, zhv, zhw, zhx, zhy, zhz, zia, zib, zic, zid, zie, zif, zig, zih, zii, zij, zik, zil, zim, zin, zio, zip, ziq, zir, zis, zit, ziu, ziv, ziw, zix, ziy, ziz, zja, zjb, zjc, zjd, zje, zjf, zjg, zjh, zji, zjj, zjk, zjl, zjm, zjn, zjo, zjp, zjq, zjr, zjs, zjt, zju, zjv, zjw, zjx, zjy, zjz, zka, zkb, zkc, zkd, zke, zkf, zkg, zkh, zki, zkj, zkk, zkl, zkm, zkn, zko, zkp, zkq, zkr, zku, zkv, zkw, zkx, zky, zkz, zla, zlb, zlc, zld, zle, zlf, zlg, zlh, zli, zlj, zlk, zll, zlm, zln, zlo, zlp, zlq, zlr, zls, zlt, zlu, zlv, zlw, zlx, zly, zlz, zma, zmb, tab3, tab4, tab9, tab23, tab28, tab57, tab59, tab84]
                     tactic =>
                      try simp only [ncast] at *
                      try simp only [Int.ofNat_eq_natCast] at *
                      try simp (config := { maxSteps := 4000000 }) only [hlb, hI, hJ, zz16, zz17, hrx2, hry2, htx2, hty2, hnm, htx, hty, h22, hz, dec_PairB, isE_PairB, dec_PL, isE_PL, PL_l, con3q_d, enc_Pair, Pair_a, Pair_b, Pair_c, dynOf_t, dynOf_f, dec_PairT, dec_PairF, isE_PairT, isE_PairF, enc_Node, isE_Node, dec_Node, node_eta, szN, eqb_Node, con_AgreeDyn, con_BelowDyn, con_EndT, con_KidsT, con_over, Int.ofNat_eq_natCast, con0, con1, con2, con3, con2t, con3t, symD0, symD1, symD2, symD3, symD4, Nat.reduceAdd, Nat.reduceSub, Nat.reduceMul, Nat.reduceMod, Nat.reduceLT, Nat.reduceLeDiff, Nat.reduceEqDiff, Nat.reduceBEq, Obj.isBox, D.setCell, D.asAgg, setAll, allFit, AV.fits, lk, upd, standAt, freeAt, backTo, packD, Nat.reduceDiv, reduceIte, reduceCtorEq, skIs, skAll, SK.is, aggL, eqbAll, D.eqb, Nat.reduceBNe]
                      repeat' (first | with_reducible assumption | with_reducible refine And.intro ?_ ?_ | intro _ | omega | (rw [inR_i64]; omega))
                      all_goals (with_reducible refine okD_id ?_; kernel_rfl))
              | true =>
                have h22 := overR_t (bel := bel) (x := xj) (y := yj) (i := I) (k := J) ho
                have hI2 : I + (nds xj).length = i + 1 + (ndss (xs.take (j + 1))).length := by omega
                have hJ2 : J + (nds yj).length = k + 1 + (ndss (ys.take (j + 1))).length := by omega
                cases bel with
                | true =>
                  have zz18 := el_enc n0 hIl
                  have zz19 := el_enc n0 hJl
                  (sym =>
                     simp [hlb, hI, hJ, zz18, zz19, hrx2, hry2, htx2, hty2, hnm, htx, hty, h22, hI2, hJ2, dec_PairB, isE_PairB, dec_PL, isE_PL, PL_l, con3q_d, enc_Pair, Pair_a, Pair_b, Pair_c, dynOf_t, dynOf_f, dec_PairT, dec_PairF, isE_PairT, isE_PairF, enc_Node, isE_Node, dec_Node, node_eta, szN, eqb_Node, ctx_over_t, ctx_over_c, ctx_over_d, ctx_over_b, ctx_over_u, con_AgreeDyn.eq_def, con_BelowDyn.eq_def, con_EndT.eq_def, con_KidsT.eq_def, con_over.eq_def, zaa, zab, zac, zad, zae, zaf, zag, zah, zai, zaj, zak, zal, zam, zan, zao, zap, zaq, zar, zas, zat, zau, zav, zaw, zax, zaz, zbh, zbl, zbm, zbn, zbo, zbp, zbq, zbr, zbs, zbt, zbu, zbx, zby, zbz, zca, zcb, zcc, zcd, zce, zcf, zco, zcp, zcr, zcs, zct, zcv, zcw, zcx, zdc, zde, zdf, zdg, zdh, zdi, zdu, zdv, zdw, zdx, zdy, zdz, zec, zed, zee, zef, zeg, zeh, zei, zej, zek, zel, zem, zen, zeq, zer, zes, zet, zeu, zev, zew, zex, zey, zez, zfa, zfb, zfc, zfd, zfe, zff, zfg, zfh, zfi, zfj, zfk, zfl, zfm, zfn, zfo, zfu, zfv, zfw, zfx, zfy, zfz, zga, zgb, zgc, zgd, zge, zgf, zgg, zgh, zgi, zgj, zgk, zgl, zgm, zgn, zgo, zgp, zgq, zgr, zgs, zgt, zgu, zgv, zgw, zgx, zgy, zgz, zha, zhb, zhc, zhd, zhe, zhf, zhg, zhh, zhi, zhj, zhk, zhn, zho, zhp, zhq, zhr, zhs, zht, zhu, zhv, zhw, zhx, zhy, zhz, zia, zib, zic, zid, zie, zif, zig, zih, zii, zij, zik, zil, zim, zin, zio, zip, ziq, zir, zis, zit, ziu, ziv, ziw, zix, ziy, ziz, zja, zjb, zjc, zjd, zje, zjf, zjg, zjh, zji, zjj, zjk, zjl, zjm, zjn, zjo, zjp, zjq, zjr, zjs, zjt, zju, zjv, zjw, zjx, zjy, zjz, zka, zkb, zkc, zkd, zke, zkf, zkg, zkh, zki, zkj, zkk, zkl, zkm, zkn, zko, zkp, zkq, zkr, zku, zkv, zkw, zkx, zky, zkz, zla, zlb, zlc, zld, zle, zlf, zlg, zlh, zli, zlj, zlk, zll, zlm, zln, zlo, zlp, zlq, zlr, zls, zlt, zlu, zlv, zlw, zlx, zly, zlz, zma, zmb, tab3, tab4, tab9, tab23, tab28, tab57, tab59, tab84]
                     tactic =>
                      try simp only [ncast] at *
                      try simp only [Int.ofNat_eq_natCast] at *
                      try simp (config := { maxSteps := 4000000 }) only [hlb, hI, hJ, zz18, zz19, hrx2, hry2, htx2, hty2, hnm, htx, hty, h22, hI2, hJ2, dec_PairB, isE_PairB, dec_PL, isE_PL, PL_l, con3q_d, enc_Pair, Pair_a, Pair_b, Pair_c, dynOf_t, dynOf_f, dec_PairT, dec_PairF, isE_PairT, isE_PairF, enc_Node, isE_Node, dec_Node, node_eta, szN, eqb_Node, con_AgreeDyn, con_BelowDyn, con_EndT, con_KidsT, con_over, Int.ofNat_eq_natCast, con0, con1, con2, con3, con2t, con3t, symD0, symD1, symD2, symD3, symD4, Nat.reduceAdd, Nat.reduceSub, Nat.reduceMul, Nat.reduceMod, Nat.reduceLT, Nat.reduceLeDiff, Nat.reduceEqDiff, Nat.reduceBEq, Obj.isBox, D.setCell, D.asAgg, setAll, allFit, AV.fits, lk, upd, standAt, freeAt, backTo, packD, Nat.reduceDiv, reduceIte, reduceCtorEq, skIs, skAll, SK.is, aggL, eqbAll, D.eqb, Nat.reduceBNe]
                      repeat' (first | with_reducible assumption | with_reducible refine And.intro ?_ ?_ | intro _ | omega | (rw [inR_i64]; omega))
                      all_goals first
                        | (with_reducible refine okD_id ?_; kernel_rfl)
                        | exact ⟨j + 1, by ((try simp only [atHead_mk, killAll, setSlots, updAll, upd, set_fl, setCs, putC, Nat.reduceDiv, Nat.reduceMod, Nat.reduceMul, Nat.reduceAdd, Nat.reduceEqDiff, List.set_cons_zero, List.set_cons_succ, if_true, if_false, reduceIte]); (first | refine Wk.of_fl ?_ | skip); simp only [Wk, wkK, wkCs, wkT, wk1, AV.kept, keptAll, wkO, lk, wkObj, and_true, true_and, and_self, Nat.reduceEqDiff, Nat.reduceLeDiff, if_true, if_false, reduceIte, reduceCtorEq, Option.isSome, false_implies]; try simp [Wk, wkK, wkT, wk1, AV.kept, keptAll, wkO, lk, wkObj]), by omega, hgo hnm' ho, by omega⟩)
                | false =>
                  have zz20 := el_enc n0 hIl
                  have zz21 := el_enc n0 hJl
                  (sym =>
                     simp [hlb, hI, hJ, zz20, zz21, hrx2, hry2, htx2, hty2, hnm, htx, hty, h22, hI2, hJ2, dec_PairB, isE_PairB, dec_PL, isE_PL, PL_l, con3q_d, enc_Pair, Pair_a, Pair_b, Pair_c, dynOf_t, dynOf_f, dec_PairT, dec_PairF, isE_PairT, isE_PairF, enc_Node, isE_Node, dec_Node, node_eta, szN, eqb_Node, ctx_over_t, ctx_over_c, ctx_over_d, ctx_over_b, ctx_over_u, con_AgreeDyn.eq_def, con_BelowDyn.eq_def, con_EndT.eq_def, con_KidsT.eq_def, con_over.eq_def, zaa, zab, zac, zad, zae, zaf, zag, zah, zai, zaj, zak, zal, zam, zan, zao, zap, zaq, zar, zas, zat, zau, zav, zaw, zax, zaz, zbh, zbl, zbm, zbn, zbo, zbp, zbq, zbr, zbs, zbt, zbu, zbx, zby, zbz, zca, zcb, zcc, zcd, zce, zcf, zco, zcp, zcr, zcs, zct, zcv, zcw, zcx, zdc, zde, zdf, zdg, zdh, zdi, zdu, zdv, zdw, zdx, zdy, zdz, zec, zed, zee, zef, zeg, zeh, zei, zej, zek, zel, zem, zen, zeq, zer, zes, zet, zeu, zev, zew, zex, zey, zez, zfa, zfb, zfc, zfd, zfe, zff, zfg, zfh, zfi, zfj, zfk, zfl, zfm, zfn, zfo, zfu, zfv, zfw, zfx, zfy, zfz, zga, zgb, zgc, zgd, zge, zgf, zgg, zgh, zgi, zgj, zgk, zgl, zgm, zgn, zgo, zgp, zgq, zgr, zgs, zgt, zgu, zgv, zgw, zgx, zgy, zgz, zha, zhb, zhc, zhd, zhe, zhf, zhg, zhh, zhi, zhj, zhk, zhn, zho, zhp, zhq, zhr, zhs, zht, zhu, zhv, zhw, zhx, zhy, zhz, zia, zib, zic, zid, zie, zif, zig, zih, zii, zij, zik, zil, zim, zin, zio, zip, ziq, zir, zis, zit, ziu, ziv, ziw, zix, ziy, ziz, zja, zjb, zjc, zjd, zje, zjf, zjg, zjh, zji, zjj, zjk, zjl, zjm, zjn, zjo, zjp, zjq, zjr, zjs, zjt, zju, zjv, zjw, zjx, zjy, zjz, zka, zkb, zkc, zkd, zke, zkf, zkg, zkh, zki, zkj, zkk, zkl, zkm, zkn, zko, zkp, zkq, zkr, zku, zkv, zkw, zkx, zky, zkz, zla, zlb, zlc, zld, zle, zlf, zlg, zlh, zli, zlj, zlk, zll, zlm, zln, zlo, zlp, zlq, zlr, zls, zlt, zlu, zlv, zlw, zlx, zly, zlz, zma, zmb, tab3, tab4, tab9, tab23, tab28, tab57, tab59, tab84]
                     tactic =>
                      try simp only [ncast] at *
                      try simp only [Int.ofNat_eq_natCast] at *
                      try simp (config := { maxSteps := 4000000 }) only [hlb, hI, hJ, zz20, zz21, hrx2, hry2, htx2, hty2, hnm, htx, hty, h22, hI2, hJ2, dec_PairB, isE_PairB, dec_PL, isE_PL, PL_l, con3q_d, enc_Pair, Pair_a, Pair_b, Pair_c, dynOf_t, dynOf_f, dec_PairT, dec_PairF, isE_PairT, isE_PairF, enc_Node, isE_Node, dec_Node, node_eta, szN, eqb_Node, con_AgreeDyn, con_BelowDyn, con_EndT, con_KidsT, con_over, Int.ofNat_eq_natCast, con0, con1, con2, con3, con2t, con3t, symD0, symD1, symD2, symD3, symD4, Nat.reduceAdd, Nat.reduceSub, Nat.reduceMul, Nat.reduceMod, Nat.reduceLT, Nat.reduceLeDiff, Nat.reduceEqDiff, Nat.reduceBEq, Obj.isBox, D.setCell, D.asAgg, setAll, allFit, AV.fits, lk, upd, standAt, freeAt, backTo, packD, Nat.reduceDiv, reduceIte, reduceCtorEq, skIs, skAll, SK.is, aggL, eqbAll, D.eqb, Nat.reduceBNe]
                      repeat' (first | with_reducible assumption | with_reducible refine And.intro ?_ ?_ | intro _ | omega | (rw [inR_i64]; omega))
                      all_goals first
                        | (with_reducible refine okD_id ?_; kernel_rfl)
                        | exact ⟨j + 1, by ((try simp only [atHead_mk, killAll, setSlots, updAll, upd, set_fl, setCs, putC, Nat.reduceDiv, Nat.reduceMod, Nat.reduceMul, Nat.reduceAdd, Nat.reduceEqDiff, List.set_cons_zero, List.set_cons_succ, if_true, if_false, reduceIte]); (first | refine Wk.of_fl ?_ | skip); simp only [Wk, wkK, wkCs, wkT, wk1, AV.kept, keptAll, wkO, lk, wkObj, and_true, true_and, and_self, Nat.reduceEqDiff, Nat.reduceLeDiff, if_true, if_false, reduceIte, reduceCtorEq, Option.isSome, false_implies]; try simp [Wk, wkK, wkT, wk1, AV.kept, keptAll, wkO, lk, wkObj]), by omega, hgo hnm' ho, by omega⟩)
          · have hjk : j = xs.length := by omega
            subst hjk
            have ho : ov bel x y = true := by
              rw [hov]
              exact (ov_kids hlen).2 fun p _ h g => hno p h h g
            have h22 := overR_t (bel := bel) (x := x) (y := y) (i := i) (k := k) ho
            have hI2 : i + 1 + (ndss (xs.take xs.length)).length = i + (nds x).length := by rw [List.take_length]; omega
            have hJ2 : k + 1 + (ndss (ys.take xs.length)).length = k + (nds y).length := by rw [hlen, List.take_length]; omega
            (sym =>
               simp [hlb, htx, hty, h22, hI2, hJ2, dec_PairB, isE_PairB, dec_PL, isE_PL, PL_l, con3q_d, enc_Pair, Pair_a, Pair_b, Pair_c, dynOf_t, dynOf_f, dec_PairT, dec_PairF, isE_PairT, isE_PairF, enc_Node, isE_Node, dec_Node, node_eta, szN, eqb_Node, ctx_over_t, ctx_over_c, ctx_over_d, ctx_over_b, ctx_over_u, con_AgreeDyn.eq_def, con_BelowDyn.eq_def, con_EndT.eq_def, con_KidsT.eq_def, con_over.eq_def, zaa, zab, zac, zad, zae, zaf, zag, zah, zai, zaj, zak, zal, zam, zan, zao, zap, zaq, zar, zas, zat, zau, zav, zaw, zax, zaz, zbh, zbl, zbm, zbn, zbo, zbp, zbq, zbr, zbs, zbt, zbu, zbx, zby, zbz, zca, zcb, zcc, zcd, zce, zcf, zco, zcp, zcr, zcs, zct, zcv, zcw, zcx, zdc, zde, zdf, zdg, zdh, zdi, zdu, zdv, zdw, zdx, zdy, zdz, zec, zed, zee, zef, zeg, zeh, zei, zej, zek, zel, zem, zen, zeq, zer, zes, zet, zeu, zev, zew, zex, zey, zez, zfa, zfb, zfc, zfd, zfe, zff, zfg, zfh, zfi, zfj, zfk, zfl, zfm, zfn, zfo, zfu, zfv, zfw, zfx, zfy, zfz, zga, zgb, zgc, zgd, zge, zgf, zgg, zgh, zgi, zgj, zgk, zgl, zgm, zgn, zgo, zgp, zgq, zgr, zgs, zgt, zgu, zgv, zgw, zgx, zgy, zgz, zha, zhb, zhc, zhd, zhe, zhf, zhg, zhh, zhi, zhj, zhk, zhn, zho, zhp, zhq, zhr, zhs, zht, zhu, zhv, zhw, zhx, zhy, zhz, zia, zib, zic, zid, zie, zif, zig, zih, zii, zij, zik, zil, zim, zin, zio, zip, ziq, zir, zis, zit, ziu, ziv, ziw, zix, ziy, ziz, zja, zjb, zjc, zjd, zje, zjf, zjg, zjh, zji, zjj, zjk, zjl, zjm, zjn, zjo, zjp, zjq, zjr, zjs, zjt, zju, zjv, zjw, zjx, zjy, zjz, zka, zkb, zkc, zkd, zke, zkf, zkg, zkh, zki, zkj, zkk, zkl, zkm, zkn, zko, zkp, zkq, zkr, zku, zkv, zkw, zkx, zky, zkz, zla, zlb, zlc, zld, zle, zlf, zlg, zlh, zli, zlj, zlk, zll, zlm, zln, zlo, zlp, zlq, zlr, zls, zlt, zlu, zlv, zlw, zlx, zly, zlz, zma, zmb, tab3, tab4, tab9, tab23, tab28, tab57, tab59, tab84]))
    · have hz := hbadR (by
        rw [hov, Bool.eq_false_iff]
        intro hc
        simp only [Bool.and_eq_true, beq_iff_eq] at hc
        exact hk1 ⟨hc.1.1, hc.1.2.1, hc.1.2.2⟩)
      have hcs : (x.root.kind != y.root.kind) = true ∨ ((x.root.kind != y.root.kind) = false ∧ (x.root.name == y.root.name) = false) ∨ ((x.root.kind != y.root.kind) = false ∧ (x.root.name == y.root.name) = true ∧ (x.root.n != y.root.n) = true) := by
        simp only [bne_iff_ne, ne_eq, bne_eq_false_iff_eq, beq_eq_false_iff_ne, beq_iff_eq]
        by_cases h1 : x.root.kind = y.root.kind
        · by_cases h2 : x.root.name = y.root.name
          · exact .inr (.inr ⟨h1, h2, fun h3 => hk1 ⟨h1, h2, h3⟩⟩)
          · exact .inr (.inl ⟨h1, h2⟩)
        · exact .inl h1
      rcases hcs with g1 | ⟨g1, g2⟩ | ⟨g1, g2, g3⟩
      · have zz22 := el_enc n0 hil
        have zz23 := el_enc n0 hkl
        (sym =>
           simp [zz22, zz23, hrx, hry, htx, hty, hd1, hd2, g1, hz, dec_PairB, isE_PairB, dec_PL, isE_PL, PL_l, con3q_d, enc_Pair, Pair_a, Pair_b, Pair_c, dynOf_t, dynOf_f, dec_PairT, dec_PairF, isE_PairT, isE_PairF, enc_Node, isE_Node, dec_Node, node_eta, szN, eqb_Node, ctx_over_t, ctx_over_c, ctx_over_d, ctx_over_b, ctx_over_u, con_AgreeDyn.eq_def, con_BelowDyn.eq_def, con_EndT.eq_def, con_KidsT.eq_def, con_over.eq_def, zaa, zab, zac, zad, zae, zaf, zag, zah, zai, zaj, zak, zal, zam, zan, zao, zap, zaq, zar, zas, zat, zau, zav, zaw, zax, zaz, zbh, zbl, zbm, zbn, zbo, zbp, zbq, zbr, zbs, zbt, zbu, zbx, zby, zbz, zca, zcb, zcc, zcd, zce, zcf, zco, zcp, zcr, zcs, zct, zcv, zcw, zcx, zdc, zde, zdf, zdg, zdh, zdi, zdu, zdv, zdw, zdx, zdy, zdz, zec, zed, zee, zef, zeg, zeh, zei, zej, zek, zel, zem, zen, zeq, zer, zes, zet, zeu, zev, zew, zex, zey, zez, zfa, zfb, zfc, zfd, zfe, zff, zfg, zfh, zfi, zfj, zfk, zfl, zfm, zfn, zfo, zfu, zfv, zfw, zfx, zfy, zfz, zga, zgb, zgc, zgd, zge, zgf, zgg, zgh, zgi, zgj, zgk, zgl, zgm, zgn, zgo, zgp, zgq, zgr, zgs, zgt, zgu, zgv, zgw, zgx, zgy, zgz, zha, zhb, zhc, zhd, zhe, zhf, zhg, zhh, zhi, zhj, zhk, zhn, zho, zhp, zhq, zhr, zhs, zht, zhu, zhv, zhw, zhx, zhy, zhz, zia, zib, zic, zid, zie, zif, zig, zih, zii, zij, zik, zil, zim, zin, zio, zip, ziq, zir, zis, zit, ziu, ziv, ziw, zix, ziy, ziz, zja, zjb, zjc, zjd, zje, zjf, zjg, zjh, zji, zjj, zjk, zjl, zjm, zjn, zjo, zjp, zjq, zjr, zjs, zjt, zju, zjv, zjw, zjx, zjy, zjz, zka, zkb, zkc, zkd, zke, zkf, zkg, zkh, zki, zkj, zkk, zkl, zkm, zkn, zko, zkp, zkq, zkr, zku, zkv, zkw, zkx, zky, zkz, zla, zlb, zlc, zld, zle, zlf, zlg, zlh, zli, zlj, zlk, zll, zlm, zln, zlo, zlp, zlq, zlr, zls, zlt, zlu, zlv, zlw, zlx, zly, zlz, zma, zmb, tab3, tab4, tab9, tab23, tab28, tab57, tab59, tab84]
           tactic =>
            try simp only [ncast] at *
            try simp only [Int.ofNat_eq_natCast] at *
            try simp (config := { maxSteps := 4000000 }) only [zz22, zz23, hrx, hry, htx, hty, hd1, hd2, g1, hz, dec_PairB, isE_PairB, dec_PL, isE_PL, PL_l, con3q_d, enc_Pair, Pair_a, Pair_b, Pair_c, dynOf_t, dynOf_f, dec_PairT, dec_PairF, isE_PairT, isE_PairF, enc_Node, isE_Node, dec_Node, node_eta, szN, eqb_Node, con_AgreeDyn, con_BelowDyn, con_EndT, con_KidsT, con_over, Int.ofNat_eq_natCast, con0, con1, con2, con3, con2t, con3t, symD0, symD1, symD2, symD3, symD4, Nat.reduceAdd, Nat.reduceSub, Nat.reduceMul, Nat.reduceMod, Nat.reduceLT, Nat.reduceLeDiff, Nat.reduceEqDiff, Nat.reduceBEq, Obj.isBox, D.setCell, D.asAgg, setAll, allFit, AV.fits, lk, upd, standAt, freeAt, backTo, packD, Nat.reduceDiv, reduceIte, reduceCtorEq, skIs, skAll, SK.is, aggL, eqbAll, D.eqb, Nat.reduceBNe]
            repeat' (first | with_reducible assumption | with_reducible refine And.intro ?_ ?_ | intro _ | omega | (rw [inR_i64]; omega))
            all_goals (with_reducible refine okD_id ?_; kernel_rfl))
      · have zz24 := el_enc n0 hil
        have zz25 := el_enc n0 hkl
        (sym =>
           simp [zz24, zz25, hrx, hry, htx, hty, hd1, hd2, g1, g2, hz, dec_PairB, isE_PairB, dec_PL, isE_PL, PL_l, con3q_d, enc_Pair, Pair_a, Pair_b, Pair_c, dynOf_t, dynOf_f, dec_PairT, dec_PairF, isE_PairT, isE_PairF, enc_Node, isE_Node, dec_Node, node_eta, szN, eqb_Node, ctx_over_t, ctx_over_c, ctx_over_d, ctx_over_b, ctx_over_u, con_AgreeDyn.eq_def, con_BelowDyn.eq_def, con_EndT.eq_def, con_KidsT.eq_def, con_over.eq_def, zaa, zab, zac, zad, zae, zaf, zag, zah, zai, zaj, zak, zal, zam, zan, zao, zap, zaq, zar, zas, zat, zau, zav, zaw, zax, zaz, zbh, zbl, zbm, zbn, zbo, zbp, zbq, zbr, zbs, zbt, zbu, zbx, zby, zbz, zca, zcb, zcc, zcd, zce, zcf, zco, zcp, zcr, zcs, zct, zcv, zcw, zcx, zdc, zde, zdf, zdg, zdh, zdi, zdu, zdv, zdw, zdx, zdy, zdz, zec, zed, zee, zef, zeg, zeh, zei, zej, zek, zel, zem, zen, zeq, zer, zes, zet, zeu, zev, zew, zex, zey, zez, zfa, zfb, zfc, zfd, zfe, zff, zfg, zfh, zfi, zfj, zfk, zfl, zfm, zfn, zfo, zfu, zfv, zfw, zfx, zfy, zfz, zga, zgb, zgc, zgd, zge, zgf, zgg, zgh, zgi, zgj, zgk, zgl, zgm, zgn, zgo, zgp, zgq, zgr, zgs, zgt, zgu, zgv, zgw, zgx, zgy, zgz, zha, zhb, zhc, zhd, zhe, zhf, zhg, zhh, zhi, zhj, zhk, zhn, zho, zhp, zhq, zhr, zhs, zht, zhu, zhv, zhw, zhx, zhy, zhz, zia, zib, zic, zid, zie, zif, zig, zih, zii, zij, zik, zil, zim, zin, zio, zip, ziq, zir, zis, zit, ziu, ziv, ziw, zix, ziy, ziz, zja, zjb, zjc, zjd, zje, zjf, zjg, zjh, zji, zjj, zjk, zjl, zjm, zjn, zjo, zjp, zjq, zjr, zjs, zjt, zju, zjv, zjw, zjx, zjy, zjz, zka, zkb, zkc, zkd, zke, zkf, zkg, zkh, zki, zkj, zkk, zkl, zkm, zkn, zko, zkp, zkq, zkr, zku, zkv, zkw, zkx, zky, zkz, zla, zlb, zlc, zld, zle, zlf, zlg, zlh, zli, zlj, zlk, zll, zlm, zln, zlo, zlp, zlq, zlr, zls, zlt, zlu, zlv, zlw, zlx, zly, zlz, zma, zmb, tab3, tab4, tab9, tab23, tab28, tab57, tab59, tab84]
           tactic =>
            try simp only [ncast] at *
            try simp only [Int.ofNat_eq_natCast] at *
            try simp (config := { maxSteps := 4000000 }) only [zz24, zz25, hrx, hry, htx, hty, hd1, hd2, g1, g2, hz, dec_PairB, isE_PairB, dec_PL, isE_PL, PL_l, con3q_d, enc_Pair, Pair_a, Pair_b, Pair_c, dynOf_t, dynOf_f, dec_PairT, dec_PairF, isE_PairT, isE_PairF, enc_Node, isE_Node, dec_Node, node_eta, szN, eqb_Node, con_AgreeDyn, con_BelowDyn, con_EndT, con_KidsT, con_over, Int.ofNat_eq_natCast, con0, con1, con2, con3, con2t, con3t, symD0, symD1, symD2, symD3, symD4, Nat.reduceAdd, Nat.reduceSub, Nat.reduceMul, Nat.reduceMod, Nat.reduceLT, Nat.reduceLeDiff, Nat.reduceEqDiff, Nat.reduceBEq, Obj.isBox, D.setCell, D.asAgg, setAll, allFit, AV.fits, lk, upd, standAt, freeAt, backTo, packD, Nat.reduceDiv, reduceIte, reduceCtorEq, skIs, skAll, SK.is, aggL, eqbAll, D.eqb, Nat.reduceBNe]
            repeat' (first | with_reducible assumption | with_reducible refine And.intro ?_ ?_ | intro _ | omega | (rw [inR_i64]; omega))
            all_goals (with_reducible refine okD_id ?_; kernel_rfl))
      · have zz26 := el_enc n0 hil
        have zz27 := el_enc n0 hkl
        (sym =>
           simp [zz26, zz27, hrx, hry, htx, hty, hd1, hd2, g1, g2, g3, hz, dec_PairB, isE_PairB, dec_PL, isE_PL, PL_l, con3q_d, enc_Pair, Pair_a, Pair_b, Pair_c, dynOf_t, dynOf_f, dec_PairT, dec_PairF, isE_PairT, isE_PairF, enc_Node, isE_Node, dec_Node, node_eta, szN, eqb_Node, ctx_over_t, ctx_over_c, ctx_over_d, ctx_over_b, ctx_over_u, con_AgreeDyn.eq_def, con_BelowDyn.eq_def, con_EndT.eq_def, con_KidsT.eq_def, con_over.eq_def, zaa, zab, zac, zad, zae, zaf, zag, zah, zai, zaj, zak, zal, zam, zan, zao, zap, zaq, zar, zas, zat, zau, zav, zaw, zax, zaz, zbh, zbl, zbm, zbn, zbo, zbp, zbq, zbr, zbs, zbt, zbu, zbx, zby, zbz, zca, zcb, zcc, zcd, zce, zcf, zco, zcp, zcr, zcs, zct, zcv, zcw, zcx, zdc, zde, zdf, zdg, zdh, zdi, zdu, zdv, zdw, zdx, zdy, zdz, zec, zed, zee, zef, zeg, zeh, zei, zej, zek, zel, zem, zen, zeq, zer, zes, zet, zeu, zev, zew, zex, zey, zez, zfa, zfb, zfc, zfd, zfe, zff, zfg, zfh, zfi, zfj, zfk, zfl, zfm, zfn, zfo, zfu, zfv, zfw, zfx, zfy, zfz, zga, zgb, zgc, zgd, zge, zgf, zgg, zgh, zgi, zgj, zgk, zgl, zgm, zgn, zgo, zgp, zgq, zgr, zgs, zgt, zgu, zgv, zgw, zgx, zgy, zgz, zha, zhb, zhc, zhd, zhe, zhf, zhg, zhh, zhi, zhj, zhk, zhn, zho, zhp, zhq, zhr, zhs, zht, zhu, zhv, zhw, zhx, zhy, zhz, zia, zib, zic, zid, zie, zif, zig, zih, zii, zij, zik, zil, zim, zin, zio, zip, ziq, zir, zis, zit, ziu, ziv, ziw, zix, ziy, ziz, zja, zjb, zjc, zjd, zje, zjf, zjg, zjh, zji, zjj, zjk, zjl, zjm, zjn, zjo, zjp, zjq, zjr, zjs, zjt, zju, zjv, zjw, zjx, zjy, zjz, zka, zkb, zkc, zkd, zke, zkf, zkg, zkh, zki, zkj, zkk, zkl, zkm, zkn, zko, zkp, zkq, zkr, zku, zkv, zkw, zkx, zky, zkz, zla, zlb, zlc, zld, zle, zlf, zlg, zlh, zli, zlj, zlk, zll, zlm, zln, zlo, zlp, zlq, zlr, zls, zlt, zlu, zlv, zlw, zlx, zly, zlz, zma, zmb, tab3, tab4, tab9, tab23, tab28, tab57, tab59, tab84]
           tactic =>
            try simp only [ncast] at *
            try simp only [Int.ofNat_eq_natCast] at *
            try simp (config := { maxSteps := 4000000 }) only [zz26, zz27, hrx, hry, htx, hty, hd1, hd2, g1, g2, g3, hz, dec_PairB, isE_PairB, dec_PL, isE_PL, PL_l, con3q_d, enc_Pair, Pair_a, Pair_b, Pair_c, dynOf_t, dynOf_f, dec_PairT, dec_PairF, isE_PairT, isE_PairF, enc_Node, isE_Node, dec_Node, node_eta, szN, eqb_Node, con_AgreeDyn, con_BelowDyn, con_EndT, con_KidsT, con_over, Int.ofNat_eq_natCast, con0, con1, con2, con3, con2t, con3t, symD0, symD1, symD2, symD3, symD4, Nat.reduceAdd, Nat.reduceSub, Nat.reduceMul, Nat.reduceMod, Nat.reduceLT, Nat.reduceLeDiff, Nat.reduceEqDiff, Nat.reduceBEq, Obj.isBox, D.setCell, D.asAgg, setAll, allFit, AV.fits, lk, upd, standAt, freeAt, backTo, packD, Nat.reduceDiv, reduceIte, reduceCtorEq, skIs, skAll, SK.is, aggL, eqbAll, D.eqb, Nat.reduceBNe]
            repeat' (first | with_reducible assumption | with_reducible refine And.intro ?_ ?_ | intro _ | omega | (rw [inR_i64]; omega))
            all_goals (with_reducible refine okD_id ?_; kernel_rfl))
theorem goodn_over : ∀ n, Good Try.prog (43, con_over n)
  | 0 => good_void (enters_of Try.func43 (by kernel_rfl) rfl) con_over_zero
  | n + 1 => step_over n (goodn_over n)
noncomputable def con_overA : Con := con_over 1000000001
theorem good_overA : Good Try.prog (43, con_overA) := goodn_over _
theorem con_overA_d : con_overA = con_over 1000000001 := rfl
theorem overR_res {bel : Bool} {x y : Rose Node} {i k : Int} : (overR bel x y i k).2.2 = ov bel x y := overR_ok

/-- The whole of a row is a tree. -/
def One (t : List Node) : Prop := ∃ x, At ar t 0 x
noncomputable def agreeT (a b : List Node) : Bool := ov false (treeAt ar a 0) (treeAt ar b 0)
noncomputable def belowT (a b : List Node) : Bool := ov true (treeAt ar a 0) (treeAt ar b 0)
noncomputable def con_AgreeP : Con := con2 (fun (a b : Sl Node) => a.l.length ≤ 1000000000 ∧ b.l.length ≤ 1000000000 ∧ One a.l ∧ One b.l) (fun a b => agreeT a.l b.l)
noncomputable def con_BelowP : Con := con2 (fun (a b : Sl Node) => a.l.length ≤ 1000000000 ∧ b.l.length ≤ 1000000000 ∧ One a.l ∧ One b.l) (fun a b => belowT a.l b.l)
theorem enc_SlN {l : List Node} : (enc (Sl.mk l) : D) = .list 3 (l.map enc) := rfl
noncomputable def ctx_AgreeP : Ctx := ⟨tab, lkC [(43, con_overA)], 60, lkB [], []⟩
theorem ctx_AgreeP_t : ctx_AgreeP.τ = tab := rfl
theorem ctx_AgreeP_c : ctx_AgreeP.Γ = lkC [(43, con_overA)] := rfl
theorem ctx_AgreeP_d : ctx_AgreeP.dp = 60 := rfl
theorem ctx_AgreeP_b : ctx_AgreeP.Δ = lkB [] := rfl
theorem ctx_AgreeP_u : ctx_AgreeP.cuts = [] := rfl
theorem good_AgreeP : Good Try.prog (19, con_AgreeP) := by
  refine ⟨enters_of Try.func19 (by kernel_rfl) rfl, ?_⟩
  have K : CtxOk Try.prog ctx_AgreeP := ctxOk_of tabOk mixedOk (by
    intro p hp
    simp only [List.mem_cons, List.not_mem_nil, or_false] at hp
    rcases hp with rfl
    · exact good_overA) (by simp)
  obtain ⟨c, hc⟩ : ∃ c, Try.f19.body = some c := ⟨_, rfl⟩
  refine fn_sound K Try.func19 hc [.tmp 4] rfl 19 rfl (fun cvs hpre => ?_)
  change con_AgreeP.pre cvs at hpre
  unfold con_AgreeP at hpre
  obtain ⟨⟨a⟩, ⟨b⟩, rfl, ha, hb, ⟨x, hx⟩, ⟨y, hy⟩⟩ := con2_pre hpre
  simp only at ha hb hx hy
  have hrec : ∃ x y, At ar a 0 x ∧ At ar b 0 y ∧ (nds x).length < 1000000001 := ⟨x, y, hx, hy, by have := hx.le; omega⟩
  simp only [Try.f19, Option.some.injEq] at hc
  subst hc
  (sym =>
     simp [con_overA_d, con_over.eq_def, enc_SlN, overR_res, dec_PairB, isE_PairB, dec_PL, isE_PL, PL_l, con3q_d, enc_Pair, Pair_a, Pair_b, Pair_c, dynOf_t, dynOf_f, dec_PairT, dec_PairF, isE_PairT, isE_PairF, enc_Node, isE_Node, dec_Node, node_eta, szN, eqb_Node, ctx_AgreeP_t, ctx_AgreeP_c, ctx_AgreeP_d, ctx_AgreeP_b, ctx_AgreeP_u, con_AgreeP.eq_def, con_overA.eq_def, zaa, zab, zac, zae, zaf, zag, zan, zao, zap, zaq, zar, zas, zau, zav, zaw, zbd, zbl, zbm, zbn, zbo, zbp, zbq, zbr, zbs, zbt, zbu, zbx, zby, zca, zcb, zcc, zcd, zcf, zco, zcp, zcr, zcu, zcv, zcw, zcx, zdc, zdd, zde, zdf, zdg, zdh, zdi, zdv, zdw, zec, zed, zeq, zer, zes, zet, zeu, zev, zew, zex, zey, zez, zfa, zfb, zfc, zff, zfg, zfh, zfi, zfj, zfk, zfl, zfm, zfn, zfo, zfu, zfv, zfw, zfx, zfy, zfz, zga, zgc, zgd, zge, zgh, zgi, zgj, zgk, zgl, zgm, zgn, zgo, zgp, zgq, zgr, zgs, zgt, zgu, zgv, zgw, zgx, zgy, zgz, zha, zhb, zhc, zhd, zhe, zhf, zhg, zhh, zhi, zhj, zhk, zhr, zhs, zht, zhu, zhv, zhw, zhx, zhy, zhz, zia, zib, zic, zid, zie, zif, zig, zih, zii, zij, zik, zil, zim, zin, zio, zip, ziq, zir, zis, zit, ziu, ziv, ziw, zix, ziy, ziz, zja, zjb, zjc, zjd, zje, zjf, zjg, zjh, zji, zjj, zjk, zjl, zjm, zjn, zjo, zjp, zjq, zjr, zjs, zjt, zju, zjv, zjw, zjx, zjy, zjz, zka, zkb, zkc, zkd, zke, zkf, zkg, zkh, zki, zkj, zkk, zkl, zkm, zkn, zko, zkp, zkq, zkr, zku, zkv, zkw, zkx, zky, zkz, zla, zlb, zlc, zld, zle, zlf, zlg, zlh, zli, zlj, zlk, zll, zlm, zln, zlo, zlp, zlq, zlr, zls, zlt, zlu, zlv, zlw, zlx, zly, zlz, zma, zmb, tab23, tab28, tab59]
     tactic =>
      try simp only [ncast] at *
      try simp only [Int.ofNat_eq_natCast] at *
      try simp (config := { maxSteps := 4000000 }) only [con_overA_d, con_over.eq_def, enc_SlN, overR_res, dec_PairB, isE_PairB, dec_PL, isE_PL, PL_l, con3q_d, enc_Pair, Pair_a, Pair_b, Pair_c, dynOf_t, dynOf_f, dec_PairT, dec_PairF, isE_PairT, isE_PairF, enc_Node, isE_Node, dec_Node, node_eta, szN, eqb_Node, con_AgreeP, con_overA, Int.ofNat_eq_natCast, con0, con1, con2, con3, con2t, con3t, symD0, symD1, symD2, symD3, symD4, Nat.reduceAdd, Nat.reduceSub, Nat.reduceMul, Nat.reduceMod, Nat.reduceLT, Nat.reduceLeDiff, Nat.reduceEqDiff, Nat.reduceBEq, Obj.isBox, D.setCell, D.asAgg, setAll, allFit, AV.fits, lk, upd, standAt, freeAt, backTo, packD, Nat.reduceDiv, reduceIte, reduceCtorEq, skIs, skAll, SK.is, aggL, eqbAll, D.eqb, Nat.reduceBNe]
      repeat' (first | with_reducible assumption | with_reducible refine And.intro ?_ ?_ | intro _ | omega | (rw [inR_i64]; omega))
      all_goals rfl)
noncomputable def ctx_BelowP : Ctx := ⟨tab, lkC [(43, con_overA)], 60, lkB [], []⟩
theorem ctx_BelowP_t : ctx_BelowP.τ = tab := rfl
theorem ctx_BelowP_c : ctx_BelowP.Γ = lkC [(43, con_overA)] := rfl
theorem ctx_BelowP_d : ctx_BelowP.dp = 60 := rfl
theorem ctx_BelowP_b : ctx_BelowP.Δ = lkB [] := rfl
theorem ctx_BelowP_u : ctx_BelowP.cuts = [] := rfl
theorem good_BelowP : Good Try.prog (16, con_BelowP) := by
  refine ⟨enters_of Try.func16 (by kernel_rfl) rfl, ?_⟩
  have K : CtxOk Try.prog ctx_BelowP := ctxOk_of tabOk mixedOk (by
    intro p hp
    simp only [List.mem_cons, List.not_mem_nil, or_false] at hp
    rcases hp with rfl
    · exact good_overA) (by simp)
  obtain ⟨c, hc⟩ : ∃ c, Try.f16.body = some c := ⟨_, rfl⟩
  refine fn_sound K Try.func16 hc [.tmp 4] rfl 20 rfl (fun cvs hpre => ?_)
  change con_BelowP.pre cvs at hpre
  unfold con_BelowP at hpre
  obtain ⟨⟨a⟩, ⟨b⟩, rfl, ha, hb, ⟨x, hx⟩, ⟨y, hy⟩⟩ := con2_pre hpre
  simp only at ha hb hx hy
  have hrec : ∃ x y, At ar a 0 x ∧ At ar b 0 y ∧ (nds x).length < 1000000001 := ⟨x, y, hx, hy, by have := hx.le; omega⟩
  simp only [Try.f16, Option.some.injEq] at hc
  subst hc
  (sym =>
     simp [con_overA_d, con_over.eq_def, enc_SlN, overR_res, dec_PairB, isE_PairB, dec_PL, isE_PL, PL_l, con3q_d, enc_Pair, Pair_a, Pair_b, Pair_c, dynOf_t, dynOf_f, dec_PairT, dec_PairF, isE_PairT, isE_PairF, enc_Node, isE_Node, dec_Node, node_eta, szN, eqb_Node, ctx_BelowP_t, ctx_BelowP_c, ctx_BelowP_d, ctx_BelowP_b, ctx_BelowP_u, con_BelowP.eq_def, con_overA.eq_def, zaa, zab, zac, zae, zaf, zag, zan, zao, zap, zaq, zar, zas, zau, zav, zaw, zbd, zbl, zbm, zbn, zbo, zbp, zbq, zbr, zbs, zbt, zbu, zbv, zbx, zby, zca, zcb, zcc, zcd, zcf, zco, zcp, zcr, zcu, zcv, zcw, zcx, zdc, zdd, zde, zdf, zdg, zdh, zdi, zdv, zdw, zec, zed, zeq, zer, zes, zet, zeu, zev, zew, zex, zey, zez, zfa, zfb, zfc, zff, zfg, zfh, zfi, zfj, zfk, zfl, zfm, zfn, zfo, zfu, zfv, zfw, zfx, zfy, zfz, zga, zgc, zgd, zge, zgh, zgi, zgj, zgk, zgl, zgm, zgn, zgo, zgp, zgq, zgr, zgs, zgt, zgu, zgv, zgw, zgx, zgy, zgz, zha, zhb, zhc, zhd, zhe, zhf, zhg, zhh, zhi, zhj, zhk, zhr, zhs, zht, zhu, zhv, zhw, zhx, zhy, zhz, zia, zib, zic, zid, zie, zif, zig, zih, zii, zij, zik, zil, zim, zin, zio, zip, ziq, zir, zis, zit, ziu, ziv, ziw, zix, ziy, ziz, zja, zjb, zjc, zjd, zje, zjf, zjg, zjh, zji, zjj, zjk, zjl, zjm, zjn, zjo, zjp, zjq, zjr, zjs, zjt, zju, zjv, zjw, zjx, zjy, zjz, zka, zkb, zkc, zkd, zke, zkf, zkg, zkh, zki, zkj, zkk, zkl, zkm, zkn, zko, zkp, zkq, zkr, zku, zkv, zkw, zkx, zky, zkz, zla, zlb, zlc, zld, zle, zlf, zlg, zlh, zli, zlj, zlk, zll, zlm, zln, zlo, zlp, zlq, zlr, zls, zlt, zlu, zlv, zlw, zlx, zly, zlz, zma, zmb, tab23, tab28, tab59]
     tactic =>
      try simp only [ncast] at *
      try simp only [Int.ofNat_eq_natCast] at *
      try simp (config := { maxSteps := 4000000 }) only [con_overA_d, con_over.eq_def, enc_SlN, overR_res, dec_PairB, isE_PairB, dec_PL, isE_PL, PL_l, con3q_d, enc_Pair, Pair_a, Pair_b, Pair_c, dynOf_t, dynOf_f, dec_PairT, dec_PairF, isE_PairT, isE_PairF, enc_Node, isE_Node, dec_Node, node_eta, szN, eqb_Node, con_BelowP, con_overA, Int.ofNat_eq_natCast, con0, con1, con2, con3, con2t, con3t, symD0, symD1, symD2, symD3, symD4, Nat.reduceAdd, Nat.reduceSub, Nat.reduceMul, Nat.reduceMod, Nat.reduceLT, Nat.reduceLeDiff, Nat.reduceEqDiff, Nat.reduceBEq, Obj.isBox, D.setCell, D.asAgg, setAll, allFit, AV.fits, lk, upd, standAt, freeAt, backTo, packD, Nat.reduceDiv, reduceIte, reduceCtorEq, skIs, skAll, SK.is, aggL, eqbAll, D.eqb, Nat.reduceBNe]
      repeat' (first | with_reducible assumption | with_reducible refine And.intro ?_ ?_ | intro _ | omega | (rw [inR_i64]; omega))
      all_goals rfl)

end Go.Am.Ty
