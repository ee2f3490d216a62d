/-
  The abstract machine, part 19: data of Lean's own types; contracts over them; small laws for what is reckoned.
-/
import Derived.Test.YtecgdmiigdfgdaaAm18
namespace Go.Am

/-- A type of Lean's whose values are data. -/
class Enc (α : Type) where
  enc : α → D
  dec : D → α
  dec_enc : ∀ a, dec (enc a) = a
open Enc (enc dec)

def isE (α : Type) [Enc α] (x : D) : Prop := x = enc (dec x : α)
theorem isE_enc {α : Type} [Enc α] (a : α) : isE α (enc a) := by unfold isE; rw [Enc.dec_enc]

instance encInt : Enc Int := ⟨.int .i64, D.i, fun _ => rfl⟩
instance encBool : Enc Bool := ⟨.bool, D.b, fun _ => rfl⟩
instance encStr : Enc (List UInt8) := ⟨.str, D.s, fun _ => rfl⟩

/-- How many cells each element of a slice has. -/
class Sz (α : Type) where
  sz : Nat
instance szInt : Sz Int := ⟨1⟩
instance szBool : Sz Bool := ⟨1⟩
instance szStr : Sz (List UInt8) := ⟨1⟩

/-- A slice. -/
structure Sl (α : Type) where
  l : List α
theorem Sl.eta {α : Type} (a : Sl α) : Sl.mk a.l = a := rfl
instance encSl {α : Type} [Enc α] [Sz α] : Enc (Sl α) := ⟨fun a => .list (Sz.sz α) (a.l.map enc), fun x => ⟨x.l.map dec⟩, fun a => by
  show Sl.mk ((a.l.map enc).map dec) = a
  rw [List.map_map]
  have : (dec ∘ enc : α → α) = id := funext fun x => Enc.dec_enc x
  rw [this, List.map_id]⟩
instance szSl {α : Type} : Sz (Sl α) := ⟨1⟩

section
variable {k k' : IntKind} {n : Int} {s s' : Nat} {l : List D} {b : Bool} {x : D} {bs : List UInt8} {f : Nat}
theorem i_int : D.i (.int k n) = n := rfl
theorem b_bool : D.b (.bool b) = b := rfl
theorem s_str : D.s (.str bs) = bs := rfl
theorem l_list : D.l (.list s l) = l := rfl
theorem isInt_int : D.isInt k (.int k' n) = (k' = k) := rfl
theorem isBool_bool : D.isBool (.bool b) = True := rfl
theorem isStr_str : D.isStr (.str bs) = True := rfl
theorem isList_list : D.isList s (.list s' l) = (s' = s) := rfl
theorem isAnyInt_int : D.isAnyInt (.int k n) = True := rfl
theorem fits_int : D.fits s (.int k n) = (s = 1) := rfl
theorem fits_bool : D.fits s (.bool b) = (s = 1) := rfl
theorem fits_str : D.fits s (.str bs) = (s = 1) := rfl
theorem fits_list : D.fits s (.list s' l) = (s = 1) := rfl
theorem fits_agg : D.fits s (.agg l) = (l.length = s) := rfl
theorem fits_ptr : D.fits s (.ptr s' x) = (s = 1) := rfl
theorem fits_clo : D.fits s (.clo s' l) = (s = 1) := rfl
theorem fits_nilp : D.fits s .nilp = (s = 1) := rfl
theorem fits_nilf : D.fits s .nilf = (s = 1) := rfl
theorem cell_int : D.cell (.int k n) f = .int k n := rfl
theorem cell_bool : D.cell (.bool b) f = .bool b := rfl
theorem cell_str : D.cell (.str bs) f = .str bs := rfl
theorem cell_list : D.cell (.list s l) f = .list s l := rfl
theorem cell_clo : D.cell (.clo s l) f = .clo s l := rfl
theorem cell_ptr : D.cell (.ptr s x) f = .ptr s x := rfl
theorem cell_agg : D.cell (.agg l) f = l.getD f .nilp := rfl
theorem i_enc {n : Int} : D.i (enc n) = n := rfl
theorem b_enc {n : Bool} : D.b (enc n) = n := rfl
theorem s_enc {n : List UInt8} : D.s (enc n) = n := rfl
theorem isInt_enc {n : Int} : D.isInt k (enc n) = (.i64 = k) := rfl
theorem isBool_enc {n : Bool} : D.isBool (enc n) = True := rfl
theorem isStr_enc {n : List UInt8} : D.isStr (enc n) = True := rfl
theorem fits_encI {n : Int} : D.fits s (enc n) = (s = 1) := rfl
theorem cell_encI {n : Int} : D.cell (enc n) f = enc n := rfl
theorem fits_encB {n : Bool} : D.fits s (enc n) = (s = 1) := rfl
theorem cell_encB {n : Bool} : D.cell (enc n) f = enc n := rfl
theorem fits_encS {n : List UInt8} : D.fits s (enc n) = (s = 1) := rfl
theorem cell_encS {n : List UInt8} : D.cell (enc n) f = enc n := rfl
theorem isAnyInt_enc {n : Int} : D.isAnyInt (enc n) = True := rfl
section
variable {α : Type} [Enc α] [Sz α] {a : Sl α}
theorem l_enc : D.l (enc a) = a.l.map enc := rfl
theorem isList_enc : D.isList s (enc a) = (Sz.sz α = s) := rfl
theorem fits_encL : D.fits s (enc a) = (s = 1) := rfl
theorem cell_encL : D.cell (enc a) f = enc a := rfl
end
theorem dec_int : (dec (.int k n) : Int) = n := rfl
theorem dec_bool : (dec (.bool b) : Bool) = b := rfl
theorem dec_str : (dec (.str bs) : List UInt8) = bs := rfl
theorem dec_encE {α : Type} [Enc α] (a : α) : (dec (enc a) : α) = a := Enc.dec_enc a
theorem isE_int : isE Int (.int .i64 n) = True := eq_true rfl
theorem isE_bool : isE Bool (.bool b) = True := eq_true rfl
theorem isE_str : isE (List UInt8) (.str bs) = True := eq_true rfl
theorem isE_encE {α : Type} [Enc α] (a : α) : isE α (enc a) = True := eq_true (isE_enc a)
section
variable {α : Type} [Enc α] [Sz α]
theorem dec_list : (dec (.list s l) : Sl α) = ⟨l.map dec⟩ := rfl
theorem isE_list : isE (Sl α) (.list s l) = (s = Sz.sz α ∧ ∀ y ∈ l, isE α y) := by
  apply propext
  unfold isE
  constructor
  · intro h
    have h' : D.list s l = D.list (Sz.sz α) ((l.map (dec : D → α)).map enc) := h
    injection h' with h1 h2
    refine ⟨h1, fun y hy => ?_⟩
    rw [List.map_map] at h2
    have h3 : l.map id = l.map ((enc : α → D) ∘ dec) := by rw [List.map_id]; exact h2
    exact List.map_inj_left.1 h3 y hy
  · rintro ⟨rfl, h⟩
    show D.list (Sz.sz α) l = D.list (Sz.sz α) ((l.map (dec : D → α)).map enc)
    rw [List.map_map]
    congr 1
    conv => lhs; rw [← List.map_id l]
    exact List.map_congr_left fun y hy => h y hy
end
end
theorem isE_map {α : Type} [Enc α] {l : List α} : (∀ y ∈ l.map enc, isE α y) = True := eq_true (by
  intro y hy
  obtain ⟨a, _, rfl⟩ := List.mem_map.1 hy
  exact isE_enc a)
theorem map_dec_enc {α : Type} [Enc α] {l : List α} : (l.map enc).map (dec : D → α) = l := by
  rw [List.map_map]
  have : (dec ∘ enc : α → α) = id := funext fun x => Enc.dec_enc x
  rw [this, List.map_id]

theorem ltB_true {a b : Int} : (ltB a b = true) = (a < b) := by simp [ltB]
theorem ltB_false {a b : Int} : (ltB a b = false) = (b ≤ a) := by simp [ltB]
theorem leB_true {a b : Int} : (leB a b = true) = (a ≤ b) := by simp [leB]
theorem leB_false {a b : Int} : (leB a b = false) = (b < a) := by simp [leB]
theorem szI : Sz.sz Int = 1 := rfl
theorem szB : Sz.sz Bool = 1 := rfl
theorem szS : Sz.sz (List UInt8) = 1 := rfl
theorem szL {α : Type} : Sz.sz (Sl α) = 1 := rfl
theorem boolE {b b' : Bool} : (D.bool b = enc b') = (b = b') := propext ⟨fun h => by have h' : D.bool b = D.bool b' := h; injection h', fun h => by rw [h]; rfl⟩
theorem intE {b b' : Int} : (D.int .i64 b = enc b') = (b = b') := propext ⟨fun h => by have h' : D.int .i64 b = D.int .i64 b' := h; injection h', fun h => by rw [h]; rfl⟩
theorem strE {b b' : List UInt8} : (D.str b = enc b') = (b = b') := propext ⟨fun h => by have h' : D.str b = D.str b' := h; injection h', fun h => by rw [h]; rfl⟩
theorem listE {α : Type} [Enc α] [Sz α] {s : Nat} {l : List D} {a : Sl α} : (D.list s l = enc a) = (s = Sz.sz α ∧ l = a.l.map enc) := propext ⟨fun h => by have h' : D.list s l = D.list (Sz.sz α) (a.l.map enc) := h; injection h' with h1 h2; exact ⟨h1, h2⟩, fun h => by rw [h.1, h.2]; rfl⟩
theorem encE {α : Type} [Enc α] {a b : α} : (enc a = enc b) = (a = b) := propext ⟨fun h => by rw [← Enc.dec_enc a, h, Enc.dec_enc], fun h => by rw [h]⟩
theorem SlE {α : Type} {a b : List α} : (Sl.mk a = Sl.mk b) = (a = b) := propext ⟨fun h => by injection h, fun h => by rw [h]⟩
@[simp] theorem encI_def {n : Int} : (enc n : D) = .int .i64 n := rfl
@[simp] theorem encB_def {n : Bool} : (enc n : D) = .bool n := rfl
@[simp] theorem encS_def {n : List UInt8} : (enc n : D) = .str n := rfl

theorem all_of_lt {α : Type} {l : List α} {p : α → Bool} (d : α) (h : ∀ j, j < l.length → p (l.getD j d) = true) : l.all p = true := by
  rw [List.all_eq_true]
  intro x hx
  obtain ⟨j, hj, rfl⟩ := List.getElem_of_mem hx
  have := h j hj
  simpa [hj] using this
theorem all_not {α : Type} {l : List α} {p : α → Bool} (d : α) (j : Nat) (hj : j < l.length) (h : p (l.getD j d) = false) : l.all p = false := by
  cases hc : l.all p with
  | false => rfl
  | true =>
    rw [List.all_eq_true] at hc
    have := hc (l.getD j d) (by simp [hj])
    rw [h] at this
    cases this
theorem any_at {α : Type} {l : List α} {p : α → Bool} (d : α) (j : Nat) (hj : j < l.length) (h : p (l.getD j d) = true) : l.any p = true := by
  rw [List.any_eq_true]
  exact ⟨l.getD j d, by simp [hj], h⟩
theorem any_not {α : Type} {l : List α} {p : α → Bool} (d : α) (h : ∀ j, j < l.length → p (l.getD j d) = false) : l.any p = false := by
  cases hc : l.any p with
  | false => rfl
  | true =>
    rw [List.any_eq_true] at hc
    obtain ⟨x, hx, hp⟩ := hc
    obtain ⟨j, hj, rfl⟩ := List.getElem_of_mem hx
    have := h j hj
    simp [hj, hp] at this

theorem el_map {α : Type} {f : α → D} {l : List α} {i : Nat} (d : α) (h : i < l.length) : el (l.map f) i = f (l.getD i d) := by
  simp [el, h]
theorem el_at {α : Type} {f : α → D} {l : List α} {i : Nat} (h : i < l.length) : el (l.map f) i = f l[i] := by
  simp [el, h]

theorem inR_i64 {n : Int} : inR .i64 n ↔ -9223372036854775808 ≤ n ∧ n ≤ 9223372036854775807 := by
  unfold inR
  constructor <;> intro h <;> simpa [IntKind.min, IntKind.max, IntKind.bits, IntKind.signed] using h

theorem inR_u64 {n : Int} : inR .u64 n ↔ 0 ≤ n ∧ n ≤ 18446744073709551615 := by
  unfold inR
  constructor <;> intro h <;> simpa [IntKind.min, IntKind.max, IntKind.bits, IntKind.signed] using h

/-! ### contracts -/
def con1 {A B : Type} [Enc A] [Enc B] (p : A → Prop) (f : A → B) : Con := ⟨[false], [false], fun c => match c with
  | [.d x] => isE A x ∧ p (dec x)
  | _ => False, fun c => match c with
  | [.d x] => .d (enc (f (dec x)))
  | _ => .d .nilp⟩
def con2 {A B R : Type} [Enc A] [Enc B] [Enc R] (p : A → B → Prop) (f : A → B → R) : Con := ⟨[false, false], [false], fun c => match c with
  | [.d x, .d y] => isE A x ∧ isE B y ∧ p (dec x) (dec y)
  | _ => False, fun c => match c with
  | [.d x, .d y] => .d (enc (f (dec x) (dec y)))
  | _ => .d .nilp⟩
def con3 {A B C R : Type} [Enc A] [Enc B] [Enc C] [Enc R] (p : A → B → C → Prop) (f : A → B → C → R) : Con := ⟨[false, false, false], [false], fun c => match c with
  | [.d x, .d y, .d z] => isE A x ∧ isE B y ∧ isE C z ∧ p (dec x) (dec y) (dec z)
  | _ => False, fun c => match c with
  | [.d x, .d y, .d z] => .d (enc (f (dec x) (dec y) (dec z)))
  | _ => .d .nilp⟩
/-- Two results. -/
def con2t {A B R S : Type} [Enc A] [Enc B] [Enc R] [Enc S] (p : A → B → Prop) (f : A → B → R × S) : Con := ⟨[false, false], [false, false], fun c => match c with
  | [.d x, .d y] => isE A x ∧ isE B y ∧ p (dec x) (dec y)
  | _ => False, fun c => match c with
  | [.d x, .d y] => .tup [.d (enc (f (dec x) (dec y)).1), .d (enc (f (dec x) (dec y)).2)]
  | _ => .d .nilp⟩
def con3t {A B C R S : Type} [Enc A] [Enc B] [Enc C] [Enc R] [Enc S] (p : A → B → C → Prop) (f : A → B → C → R × S) : Con := ⟨[false, false, false], [false, false], fun c => match c with
  | [.d x, .d y, .d z] => isE A x ∧ isE B y ∧ isE C z ∧ p (dec x) (dec y) (dec z)
  | _ => False, fun c => match c with
  | [.d x, .d y, .d z] => .tup [.d (enc (f (dec x) (dec y) (dec z)).1), .d (enc (f (dec x) (dec y) (dec z)).2)]
  | _ => .d .nilp⟩
def con0 {R : Type} [Enc R] (r : R) : Con := ⟨[], [false], fun c => match c with
  | [] => True
  | _ => False, fun _ => .d (enc r)⟩

theorem con1_pre {A B : Type} [Enc A] [Enc B] {p : A → Prop} {f : A → B} {c : List CV} (h : (con1 p f).pre c) : ∃ a, c = [.d (enc a)] ∧ p a := by
  unfold con1 at h
  simp only at h
  split at h
  · next x => exact ⟨dec x, by rw [← h.1], h.2⟩
  · exact h.elim
theorem con2_pre {A B R : Type} [Enc A] [Enc B] [Enc R] {p : A → B → Prop} {f : A → B → R} {c : List CV} (h : (con2 p f).pre c) : ∃ a b, c = [.d (enc a), .d (enc b)] ∧ p a b := by
  unfold con2 at h
  simp only at h
  split at h
  · next x y => exact ⟨dec x, dec y, by rw [← h.1, ← h.2.1], h.2.2⟩
  · exact h.elim
theorem con3_pre {A B C R : Type} [Enc A] [Enc B] [Enc C] [Enc R] {p : A → B → C → Prop} {f : A → B → C → R} {c : List CV} (h : (con3 p f).pre c) : ∃ a b d, c = [.d (enc a), .d (enc b), .d (enc d)] ∧ p a b d := by
  unfold con3 at h
  simp only at h
  split at h
  · next x y z => exact ⟨dec x, dec y, dec z, by rw [← h.1, ← h.2.1, ← h.2.2.1], h.2.2.2⟩
  · exact h.elim
theorem con2t_pre {A B R S : Type} [Enc A] [Enc B] [Enc R] [Enc S] {p : A → B → Prop} {f : A → B → R × S} {c : List CV} (h : (con2t p f).pre c) : ∃ a b, c = [.d (enc a), .d (enc b)] ∧ p a b := by
  unfold con2t at h
  simp only at h
  split at h
  · next x y => exact ⟨dec x, dec y, by rw [← h.1, ← h.2.1], h.2.2⟩
  · exact h.elim
theorem con3t_pre {A B C R S : Type} [Enc A] [Enc B] [Enc C] [Enc R] [Enc S] {p : A → B → C → Prop} {f : A → B → C → R × S} {c : List CV} (h : (con3t p f).pre c) : ∃ a b d, c = [.d (enc a), .d (enc b), .d (enc d)] ∧ p a b d := by
  unfold con3t at h
  simp only at h
  split at h
  · next x y z => exact ⟨dec x, dec y, dec z, by rw [← h.1, ← h.2.1, ← h.2.2.1], h.2.2.2⟩
  · exact h.elim
theorem con0_pre {R : Type} [Enc R] {r : R} {c : List CV} (h : (con0 r).pre c) : c = [] := by
  unfold con0 at h
  simp only at h
  split at h
  · rfl
  · exact h.elim

/-! ### contexts -/
def lkC : List (Nat × Con) → Nat → Option Con
  | [], _ => none
  | (j, x) :: r, i => if i = j then some x else lkC r i
/-- A function that keeps its contract. -/
def Good (P : Program) (p : Nat × Con) : Prop := Enters P p.1 ∧ Sound P p.1 p.2
def lkB : List (Nat × BCon) → Nat → Option BCon
  | [], _ => none
  | (j, x) :: r, i => if i = j then some x else lkB r i
/-- A function that keeps its contract, where something is lent to it. -/
def GoodB (P : Program) (p : Nat × BCon) : Prop := Enters P p.1 ∧ SoundB P p.1 p.2
theorem ctxOk_of {P : Program} {τ : Nat → TI} {l : List (Nat × Con)} {n : Nat} (hT : TabOk P τ) (hm : P.follows .mixedOrders = true) (h : ∀ p ∈ l, Good P p) {lb : List (Nat × BCon)} (hb : ∀ p ∈ lb, GoodB P p := by simp) {cu : List Nat} : CtxOk P ⟨τ, lkC l, n, lkB lb, cu⟩ := by
  refine ⟨hT, fun f con hf => ?_, hm, fun f bc hf => ?_⟩
  case refine_2 =>
    have : ∀ (l : List (Nat × BCon)), lkB l f = some bc → (f, bc) ∈ l := by
      intro l
      induction l with
      | nil => intro h; simp [lkB] at h
      | cons p r ih =>
        intro h
        obtain ⟨j, x⟩ := p
        simp only [lkB] at h
        by_cases hfj : f = j
        · rw [if_pos hfj] at h
          injection h with h
          subst h; subst hfj
          simp
        · rw [if_neg hfj] at h
          exact List.mem_cons_of_mem _ (ih h)
    exact hb _ (this lb hf)
  have : ∀ (l : List (Nat × Con)), lkC l f = some con → (f, con) ∈ l := by
    intro l
    induction l with
    | nil => intro h; simp [lkC] at h
    | cons p r ih =>
      intro h
      obtain ⟨j, x⟩ := p
      simp only [lkC] at h
      by_cases hfj : f = j
      · rw [if_pos hfj] at h
        injection h with h
        subst h; subst hfj
        simp
      · rw [if_neg hfj] at h
        exact List.mem_cons_of_mem _ (ih h)
  exact h _ (this l hf)

/-- A slice of its own, told as a datum: it stays. -/
theorem Good.frozen {P : Program} {f : Nat} {modes : List Bool} {pre : List CV → Prop} {fn : List CV → CV} (h : Good P (f, ⟨modes, [true], pre, fn⟩)) (g : List CV → D) (hfn : ∀ c, pre c → ∃ s l, fn c = .own s l ∧ g c = .list s l) :
    Good P (f, ⟨modes, [false], pre, fun c => .d (g c)⟩) := by
  refine ⟨h.1, fun m w cvs vs hp hcv hnd hnew => (h.2 m w cvs vs hp hcv hnd hnew).mono ?_⟩
  rintro e w' ⟨v, m', rfl, hfr, hm, hn, hres⟩
  obtain ⟨s, l, e1, e2⟩ := hfn cvs hp
  change Res _ _ _ (fn cvs) v at hres
  rw [e1] at hres
  simp only [Res, CVRs, CVR] at hres
  obtain ⟨⟨v1, r, hv1, ho, rfl⟩, hb⟩ := hres
  injection hv1 with hv1 _
  subst hv1
  rcases ho with ⟨rfl, rfl⟩ | ⟨b, cap, cs, t, rfl, hc, hx, hg, hs, hre, hmb⟩
  · refine ⟨_, m', rfl, hfr, hm, hn, ?_⟩
    show Res _ _ _ (.d (g cvs)) _
    rw [e2]
    simp only [Res, CVRs, CVR, R]
    exact ⟨⟨_, [], rfl, ⟨none, 0, rfl, Nat.le_refl _, Nat.zero_le _, by simp⟩, rfl⟩, by simp [ownsOf]⟩
  · have hbw : b < w'.heap.size := (Array.getElem?_eq_some_iff.1 hg).1
    have hbb := hb b (by simp [ownsOf, Value.ownBlock])
    have hle : Fix.le ⟨w', m'⟩ ⟨w', fun k => if k = b then l.length * s else m' k⟩ := by
      intro k
      by_cases hk : k = b
      · subst hk
        exact ⟨by have hz : m' k = 0 := hmb; show m' k ≤ _; rw [hz]; exact Nat.zero_le _, fun off ho => rfl⟩
      · exact ⟨by simp only [if_neg hk]; exact Nat.le_refl _, fun off ho => rfl⟩
    refine ⟨_, fun k => if k = b then l.length * s else m' k, rfl, hfr, fun k hk hks => ?_, fun k hk => ?_, ?_⟩
    · have : k ≠ b := by
        rintro rfl
        rcases hbb with h1 | h1
        · omega
        · exact hks h1
      simp only [if_neg this]
      exact hm k hk hks
    · have : k ≠ b := by rintro rfl; omega
      simp only [if_neg this]
      exact hn k hk
    · show Res _ _ _ (.d (g cvs)) _
      rw [e2]
      simp only [Res, CVRs, CVR, R]
      refine ⟨⟨_, [], rfl, ⟨some ⟨b, 0, none⟩, cap, rfl, hc, hx, fun _ => ⟨b, 0, _, rfl, RE.mono hle hre, ?_⟩⟩, rfl⟩, by simp [ownsOf]⟩
      have hl := RE.length hre
      refine ⟨?_, fun j u hj => ?_⟩
      · rw [hl]; simp
      · have hjl : j < l.length * s := by rw [← hl]; exact (List.getElem?_eq_some_iff.1 hj).1
        rw [List.getElem?_take, if_pos hjl] at hj
        simp only [World.cell?, hg]
        simpa using hj

end Go.Am
