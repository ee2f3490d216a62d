/-
  The abstract machine, part 24: the steps as equations for a simplifier that reckons inside out; a branch stands as 'cond'.
-/
import Derived.Test.YtecgdmiigdfgdaaAm23
set_option linter.unusedVariables false
namespace Go.Am
open Enc (enc dec)

/-! ### branches -/
theorem set_getD {α : Type} {l : List α} {i : Nat} {x d : α} (h : l.getD i d = x) (hx : x ≠ d) : l.set i x = l := by
  apply List.ext_getElem?
  intro j
  rw [List.getElem?_set]
  by_cases hij : i = j
  · subst hij
    rw [if_pos rfl]
    by_cases hi : i < l.length
    · rw [if_pos hi]
      rw [List.getD_eq_getElem?_getD, List.getElem?_eq_getElem hi] at h
      rw [List.getElem?_eq_getElem hi, ← h]
      rfl
    · rw [List.getD_eq_getElem?_getD, List.getElem?_eq_none (by omega)] at h
      exact absurd h.symm hx
  · rw [if_neg hij]
/-- A branch on what stands in a slot: the slot holds what is known of it behind. -/
theorem sAwp_condT (C : Ctx) (t : Nat) (x y : Code) (Q : AExit → AS → Prop) (T : List AV) (o : Objs) : awp C (.cond (.tmp t) x y) Q ⟨T, o⟩ = (match T.getD t .dead with
    | .d (.bool b) => (b = true → awp C x Q ⟨T.set t (.d (.bool true)), o⟩) ∧ (b = false → awp C y Q ⟨T.set t (.d (.bool false)), o⟩)
    | _ => False) := by
  rw [awp_cond]
  simp only [AS.ev]
  generalize hz : T.getD t .dead = z
  cases z with
  | d x =>
    cases x with
    | bool b =>
      simp only [D.isBool, D.b, true_and, ifB]
      have h := set_getD hz (by simp)
      cases b with
      | true => simp only [h]; simp
      | false => simp only [h]; simp
    | _ => simp [D.isBool]
  | _ => rfl
theorem sAwp_condC (C : Ctx) (b : Bool) (x y : Code) (Q : AExit → AS → Prop) (T : List AV) (o : Objs) : awp C (.cond (.const (.bool b)) x y) Q ⟨T, o⟩ = ((b = true → awp C x Q ⟨T, o⟩) ∧ (b = false → awp C y Q ⟨T, o⟩)) := by
  rw [awp_cond]
  simp only [AS.ev, constAV, constD, D.isBool, D.b, true_and, ifB]
theorem sIfG (b want : Bool) (P Q : Prop) : ifG b want P Q = (match want with
    | true => (b = true → P) ∧ (b = false → Q)
    | false => (b = false → P) ∧ (b = true → Q)) := by
  cases b <;> cases want <;> simp [ifG]
theorem sOp (C : Ctx) (ops : List Oper) (o : Oper) (K : AS → Prop) (st : AS) : aOp C ops o K st = (match o.guard with
  | none => aExec C o K st
  | some (j, want) => match guardOf ops st j with
    | .b t b => (match want with
      | true => (b = true → aExec C o K ⟨st.tmps.set t (.d (.bool true)), st.objs⟩) ∧ (b = false → K (AS.put ⟨st.tmps.set t (.d (.bool false)), st.objs⟩ o.dst (.d (.tup [])) st.objs))
      | false => (b = false → aExec C o K ⟨st.tmps.set t (.d (.bool false)), st.objs⟩) ∧ (b = true → K (AS.put ⟨st.tmps.set t (.d (.bool true)), st.objs⟩ o.dst (.d (.tup [])) st.objs)))
    | .und => K (AS.put st o.dst (.d (.tup [])) st.objs)
    | .no => False) := by
  unfold aOp
  cases o.guard with
  | none => rfl
  | some p =>
    obtain ⟨j, want⟩ := p
    simp only
    cases guardOf ops st j with
    | b t b =>
      simp only [sIfG]
      cases want <;> rfl
    | und => rfl
    | no => rfl
theorem sDraws_nil (C : Ctx) (ops : List Oper) (i : Nat) (acc : List (Nat × List Nat × Bool)) (K : AS → Prop) (st : AS) : aDraws C ops i [] acc K st = (okD ops acc = true ∧ K st) := rfl
theorem sDraws_cons (C : Ctx) (ops : List Oper) (i : Nat) (o : Oper) (r : List Oper) (acc : List (Nat × List Nat × Bool)) (K : AS → Prop) (st : AS) : aDraws C ops i (o :: r) acc K st = (match o.guard with
    | none => aExecB C o (fun fp ro => aDraws C ops (i + 1) r ((i, fp, ro) :: acc) K) st
    | some (j, want) => match guardOf ops st j with
      | .b t b => (match want with
        | true => (b = true → aExecB C o (fun fp ro => aDraws C ops (i + 1) r ((i, fp, ro) :: acc) K) ⟨st.tmps.set t (.d (.bool true)), st.objs⟩) ∧
            (b = false → aDraws C ops (i + 1) r acc K (AS.put ⟨st.tmps.set t (.d (.bool false)), st.objs⟩ o.dst (.d (.tup [])) st.objs))
        | false => (b = false → aExecB C o (fun fp ro => aDraws C ops (i + 1) r ((i, fp, ro) :: acc) K) ⟨st.tmps.set t (.d (.bool false)), st.objs⟩) ∧
            (b = true → aDraws C ops (i + 1) r acc K (AS.put ⟨st.tmps.set t (.d (.bool true)), st.objs⟩ o.dst (.d (.tup [])) st.objs)))
      | .und => aDraws C ops (i + 1) r acc K (AS.put st o.dst (.d (.tup [])) st.objs)
      | .no => False) := by
  rw [aDraws]
  cases o.guard with
  | none => rfl
  | some p =>
    obtain ⟨j, want⟩ := p
    simp only
    cases guardOf ops st j with
    | b t b =>
      simp only [sIfG]
      cases want <;> rfl
    | und => rfl
    | no => rfl

/-! ### parts of what is built -/
section
variable (a : Option Tmp) (b : Op) (c : TypeId) (d : String) (e : Array Edge) (f : Option (Nat × Bool))
theorem sO1 : (Oper.mk a b c d e f).dst = a := rfl
theorem sO2 : (Oper.mk a b c d e f).op = b := rfl
theorem sO3 : (Oper.mk a b c d e f).type = c := rfl
theorem sO4 : (Oper.mk a b c d e f).guard = f := rfl
end
section
variable (a : TK) (b c : Nat) (d : AV) (e : D) (f : List SK)
theorem sT1 : (TI.mk a b c d e f).kind = a := rfl
theorem sT2 : (TI.mk a b c d e f).size = b := rfl
theorem sT3 : (TI.mk a b c d e f).bytes = c := rfl
theorem sT4 : (TI.mk a b c d e f).zero = d := rfl
theorem sT5 : (TI.mk a b c d e f).zd = e := rfl
theorem sT6 : (TI.mk a b c d e f).eqk = f := rfl
end
section
variable (a : Nat → TI) (b : Nat → Option Con) (c : Nat) (d : Nat → Option BCon) (e : List Nat)
theorem sC1 : (Ctx.mk a b c d e).τ = a := rfl
theorem sC2 : (Ctx.mk a b c d e).Γ = b := rfl
theorem sC3 : (Ctx.mk a b c d e).dp = c := rfl
theorem sC4 : (Ctx.mk a b c d e).Δ = d := rfl
theorem sC5 : (Ctx.mk a b c d e).cuts = e := rfl
end
theorem sA1 (a : List AV) (b : Objs) : (AS.mk a b).tmps = a := rfl
theorem sA2 (a : List AV) (b : Objs) : (AS.mk a b).objs = b := rfl
theorem sP1 {α β : Type} (a : α) (b : β) : (a, b).1 = a := rfl
theorem sP2 {α β : Type} (a : α) (b : β) : (a, b).2 = b := rfl
theorem sN1 (a b : List Bool) (p : List CV → Prop) (f : List CV → CV) : (Con.mk a b p f).modes = a := rfl
theorem sN2 (a b : List Bool) (p : List CV → Prop) (f : List CV → CV) : (Con.mk a b p f).outs = b := rfl
theorem sN3 (a b : List Bool) (p : List CV → Prop) (f : List CV → CV) (x : List CV) : (Con.mk a b p f).pre x = p x := rfl
theorem sN4 (a b : List Bool) (p : List CV → Prop) (f : List CV → CV) (x : List CV) : (Con.mk a b p f).fn x = f x := rfl
theorem sR1 {α : Type} (l : List α) : l.toArray.toList = l := rfl

theorem sFst (s : Nat) (x : D) : AV.fits s (.d x) = x.fits s := rfl
theorem sMapId {α β : Type} (f : α → β) (x : α) (l : List α) : (x :: l).map f = f x :: l.map f := rfl
theorem sMapNil {α β : Type} (f : α → β) : ([] : List α).map f = [] := rfl
theorem sLenC {α : Type} (x : α) (l : List α) : (x :: l).length = l.length + 1 := rfl
theorem sLenN {α : Type} : ([] : List α).length = 0 := rfl
theorem sGet0 {α : Type} (x : α) (l : List α) : (x :: l)[0]? = some x := rfl
theorem sGet1 {α : Type} (x : α) (l : List α) (n : Nat) : (x :: l)[n + 1]? = l[n]? := rfl
theorem sCondT {α : Type} (a b : α) : cond true a b = a := rfl
theorem sCondF {α : Type} (a b : α) : cond false a b = b := rfl

theorem sCl1 (s : Nat) (k : IntKind) (n : Int) : AV.cells false s (.d (.int k n)) = [.d (.int k n)] := rfl
theorem sCl2 (s : Nat) (b : Bool) : AV.cells false s (.d (.bool b)) = [.d (.bool b)] := rfl
theorem sCl3 (s : Nat) (b : List UInt8) : AV.cells false s (.d (.str b)) = [.d (.str b)] := rfl
theorem sCl4 (s : Nat) : AV.cells false s (.d .nilf) = [.d .nilf] := rfl
theorem sCl5 (s : Nat) : AV.cells false s (.d .nilp) = [.d .nilp] := rfl
theorem sCl6 (s m : Nat) (l : List D) : AV.cells false s (.d (.list m l)) = [.d (.list m l)] := rfl
theorem sCl7 (s m : Nat) (x : D) : AV.cells false s (.d (.ptr m x)) = [.d (.ptr m x)] := rfl
theorem sCl8 (s f : Nat) (l : List D) : AV.cells false s (.d (.clo f l)) = [.d (.clo f l)] := rfl
theorem sCl9 {α : Type} [Enc α] [Sz α] (s : Nat) (a : Sl α) : AV.cells false s (.d (enc a)) = [.d (enc a)] := rfl
theorem sCla (ag : Bool) (s i f : Nat) : AV.cells ag s (.ref i f) = [.ref i f] := rfl
theorem sClb (ag : Bool) (s i n e f : Nat) : AV.cells ag s (.rref i n e f) = [.rref i n e f] := rfl
theorem sClc (ag : Bool) (s i n : Nat) : AV.cells ag s (.sl i n) = [.sl i n] := rfl
theorem sCld (ag : Bool) (s f : Nat) (l : List AV) : AV.cells ag s (.clo f l) = [.clo f l] := rfl
theorem sCle (ag : Bool) (s m : Nat) : AV.cells ag s (.nils m) = [.nils m] := rfl
theorem sClf (ag : Bool) (s : Nat) : AV.cells ag s .dead = [.dead] := rfl
theorem sDec (i : Decidable True) : @decide True i = true := by simp
theorem sDecF (i : Decidable False) : @decide False i = false := by simp
theorem sCv1 (C : Ctx) (h : Nat) (k : IntKind) (n : Int) : constAV C h (.int k n) = .d (.int k n) := rfl
theorem sCv2 (C : Ctx) (h : Nat) (b : Bool) : constAV C h (.bool b) = .d (.bool b) := rfl
theorem sCv3 (C : Ctx) (h : Nat) (b : ByteArray) : constAV C h (.string b) = .d (.str b.data.toList) := rfl
theorem sCv4 (C : Ctx) (h : Nat) : constAV C h .nilFunc = .d .nilf := rfl
theorem sCv5 (C : Ctx) (h : Nat) : constAV C h (.pointer none) = .d .nilp := rfl
theorem sCv6 (C : Ctx) (h : Nat) : constAV C h (.slice none 0 0) = .nils (C.esize h) := rfl
theorem sBy (l : Array UInt8) : (ByteArray.mk l).data = l := rfl
theorem aCallBD_of {bc : BCon} {args : List AV} {dst : Option Tmp} {K : List Nat → AS → Prop} {st : AS} (x : bc.X) (rs : List Nat) (h1 : bc.ok x) (h2 : rnAs rs (bc.args x) = args) (h3 : rs.Nodup) (h4 : rs.length = (bc.post x).length)
    (h5 : standAt rs rs (bc.objs x) st.objs) (h6 : freeAt (rs.drop (bc.objs x).length) st.objs) (h7 : Shut (K (rs.map (· % 4096)) (AS.put st dst (.d (bc.res x)) (backTo rs rs (bc.post x) st.objs)))) : aCallBD bc args dst K st :=
  ⟨x, rs, h1, h2, h3, h4, h5, h6, h7.out⟩
/-- Nothing is asked of a contract whose condition never holds. -/
theorem good_void {P : Program} {f : Nat} {con : Con} (h : Enters P f) (hv : ∀ c, ¬ con.pre c) : Good P (f, con) := ⟨h, fun _ _ c _ hp => absurd hp (hv c)⟩
theorem goodb_void {P : Program} {f : Nat} {bc : BCon} (h : Enters P f) (hv : ∀ x, ¬ bc.ok x) : GoodB P (f, bc) := ⟨h, fun x hx => absurd hx (hv x)⟩
/-- A contract by cases of a bound. -/
theorem good_all {P : Program} {f : Nat} {con : Con} {cn : Nat → Con} (h : ∀ n, Good P (f, cn n)) (hc : ∀ c, con.pre c → ∃ n, (cn n).pre c ∧ (cn n).fn c = con.fn c) : Good P (f, con) := by
  refine ⟨(h 0).1, fun m w cvs vs hp hcv hnd hnew => ?_⟩
  obtain ⟨n, h1, h2⟩ := hc cvs hp
  have := (h n).2 m w cvs vs h1 hcv hnd hnew
  simp only [h2] at this
  exact this
/-- How a call is shown to which something is lent. -/
theorem aCallB_of {bc : BCon} {args : List AV} {dst : Option Tmp} {K : AS → Prop} {st : AS} (x : bc.X) (rs : List Nat) (h1 : bc.ok x) (h2 : rnAs rs (bc.args x) = args) (h3 : rs.Nodup) (h4 : rs.length = (bc.post x).length)
    (h5 : standAt rs rs (bc.objs x) st.objs) (h6 : freeAt (rs.drop (bc.objs x).length) st.objs) (h7 : Shut (K (AS.put st dst (.d (bc.res x)) (backTo rs rs (bc.post x) st.objs)))) : aCallB bc args dst K st :=
  ⟨x, rs, h1, h2, h3, h4, h5, h6, h7.out⟩
theorem okD_id {ops : List Oper} {acc : List (Nat × List Nat × Bool)} (h : okD ops acc = true) : okD ops acc = true := h
theorem sNc0 : ((0 : Nat) : Int) = 0 := rfl
theorem sNc1 : ((1 : Nat) : Int) = 1 := rfl
theorem sEl0 (x : D) (l : List D) : el (x :: l) 0 = x := rfl
theorem sEl1 (x : D) (l : List D) (n : Nat) : el (x :: l) (n + 1) = el l n := rfl
theorem sNc2 : ((2 : Nat) : Int) = 2 := rfl
theorem sNc3 : ((3 : Nat) : Int) = 3 := rfl
theorem sNc4 : ((4 : Nat) : Int) = 4 := rfl
theorem sTn1 : Int.toNat 1 = 1 := rfl
theorem sTn2 : Int.toNat 2 = 2 := rfl
theorem sTn3 : Int.toNat 3 = 3 := rfl
theorem sSc1 (k : IntKind) (n : Int) (f : Nat) (y : D) : D.setCell (.int k n) f y = y := rfl
theorem sSc2 (b : Bool) (f : Nat) (y : D) : D.setCell (.bool b) f y = y := rfl
theorem sSc3 (b : List UInt8) (f : Nat) (y : D) : D.setCell (.str b) f y = y := rfl
theorem sSc4 (m : Nat) (l : List D) (f : Nat) (y : D) : D.setCell (.list m l) f y = y := rfl
theorem sSc5 {α : Type} [Enc α] [Sz α] (a : Sl α) (f : Nat) (y : D) : D.setCell (enc a) f y = y := rfl
theorem sSl {α : Type} (l : List α) : (Sl.mk l).l = l := rfl
theorem ncast (k : Nat) : (NatCast.natCast k : Int) = Int.ofNat k := rfl
theorem el_enc {α : Type} [Enc α] {l : List α} {i : Nat} (d : α) (h : i < l.length) : el (l.map enc) i = enc (l.getD i d) := el_map d h

end Go.Am
