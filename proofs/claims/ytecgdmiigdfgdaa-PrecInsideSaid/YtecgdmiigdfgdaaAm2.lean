/-
  The abstract machine, part 2: slots, objects of the call's own, the state, and how it stands to the machine's own state.
-/
import Derived.Test.YtecgdmiigdfgdaaAm1
namespace Go.Am
open Go.RowKit (Below)

/-- What stands in a slot. -/
inductive AV where
  | d (x : D)
  | ref (i f : Nat)
  | rref (i n e f : Nat)
  | sl (i n : Nat)
  | agg (l : List AV)
  | tup (l : List AV)
  | clo (f : Nat) (l : List AV)
  | nils (s : Nat)
  | dead
  deriving Inhabited

/-- An object of the call's own: a variable in memory; one that is not written any more; a slice that grows; one that was handed on. -/
inductive Obj where
  | box (ag : Bool) (cells : List AV)
  | fbox (s : Nat) (x : D)
  | row (s : Nat) (els : List D) (k : Nat)
  | gone
  deriving Inhabited

def Obj.owns : Obj → Bool
  | .box .. => true
  | .row .. => true
  | _ => false
def Obj.isBox : Obj → Bool
  | .box .. => true
  | .fbox .. => true
  | _ => false

structure AS where
  tmps : List AV
  objs : List (Nat × Obj)
  deriving Inhabited

def lk : List (Nat × Obj) → Nat → Option Obj
  | [], _ => none
  | (j, o) :: r, i => if i = j then some o else lk r i
def upd : List (Nat × Obj) → Nat → Obj → List (Nat × Obj)
  | [], i, o => [(i, o)]
  | (j, p) :: r, i, o => if i = j then (j, o) :: r else (j, p) :: upd r i o

theorem lk_upd (l : List (Nat × Obj)) (i : Nat) (o : Obj) (j : Nat) : lk (upd l i o) j = if j = i then some o else lk l j := by
  induction l with
  | nil => simp [upd, lk]
  | cons p r ih =>
    obtain ⟨k, q⟩ := p
    simp only [upd]
    by_cases h : i = k
    · subst h
      simp only [if_true, lk]
      split <;> rfl
    · rw [if_neg h]
      simp only [lk, ih]
      by_cases h1 : j = k
      · subst h1
        rw [if_pos rfl, if_pos rfl, if_neg (fun e => h e.symm)]
      · rw [if_neg h1, if_neg h1]

/-- Where the objects lie. -/
structure Gh where
  γ : Nat → Option Nat
  hd : Nat → Value

mutual
def RA (F : Fix) (G : Gh) (L : Nat → Option Obj) : AV → Value → Prop
  | .d x, v => R F x v
  | .ref i f, v => v.oneCell' = true ∧ match L i with
    | some o => o.isBox = true → ∃ b, G.γ i = some b ∧ v = .pointer (some ⟨b, f, none⟩)
    | none => False
  | .rref i n e f, v => v.oneCell' = true ∧ match L i with
    | some (.row s els _) => n ≤ els.length ∧ (n = els.length → ∃ b, G.γ i = some b ∧ v = .pointer (some ⟨b, e * s + f, none⟩))
    | some _ => True
    | none => False
  | .sl i n, v => v.oneCell' = true ∧ match L i with
    | some (.row _ els _) => n ≤ els.length ∧ (n = els.length → v = G.hd i)
    | some _ => True
    | none => False
  | .agg l, v => ∃ cs : List Value, v = .agg cs.toArray ∧ RAs F G L l cs ∧ ∀ u ∈ cs, u.oneCell' = true
  | .tup l, v => ∃ cs : List Value, v = .tuple cs.toArray ∧ RAs F G L l cs
  | .clo f l, v => ∃ cs : List Value, v = .func (.func f) #[] cs.toArray ∧ RAs F G L l cs
  | .nils _, v => v = .slice none 0 0
  | .dead, _ => True
def RAs (F : Fix) (G : Gh) (L : Nat → Option Obj) : List AV → List Value → Prop
  | [], vs => vs = []
  | x :: l, vs => ∃ v r, vs = v :: r ∧ RA F G L x v ∧ RAs F G L l r
end

/-- The objects may go on so. -/
def Goes (G : Gh) (L : Nat → Option Obj) (G' : Gh) (L' : Nat → Option Obj) : Prop :=
  ∀ i o, L i = some o → ∃ o', L' i = some o' ∧ (o'.isBox = true → o.isBox = true ∧ G'.γ i = G.γ i) ∧
    ∀ s els' k', o' = .row s els' k' → ∃ els k, o = .row s els k ∧ els.length ≤ els'.length ∧ (els'.length = els.length → G'.γ i = G.γ i ∧ G'.hd i = G.hd i)

theorem Goes.refl (G : Gh) (L : Nat → Option Obj) : Goes G L G L := fun _ o h => ⟨o, h, fun hb => ⟨hb, rfl⟩, fun _ els' k' he => ⟨els', k', he, Nat.le_refl _, fun _ => ⟨rfl, rfl⟩⟩⟩

mutual
theorem RA.mono {F F' : Fix} {G G' : Gh} {L L' : Nat → Option Obj} (h : F.le F') (g : Goes G L G' L') : ∀ {x : AV} {v : Value}, RA F G L x v → RA F' G' L' x v
  | .d x, _, hr => by simp only [RA] at hr ⊢; exact hr.mono h
  | .ref i f, v, hr => by
    simp only [RA] at hr ⊢
    cases hl : L i with
    | none => simp [hl] at hr
    | some o =>
      obtain ⟨o', h1, h2, _⟩ := g i o hl
      simp only [hl] at hr
      simp only [h1]
      refine ⟨hr.1, fun hb => ?_⟩
      obtain ⟨g1, g2⟩ := h2 hb
      rw [g2]
      exact hr.2 g1
  | .rref i n e f, v, hr => by
    simp only [RA] at hr ⊢
    cases hl : L i with
    | none => simp [hl] at hr
    | some o =>
      obtain ⟨o', h1, _, h3⟩ := g i o hl
      simp only [hl] at hr
      simp only [h1]
      cases o' with
      | row s els' k' =>
        obtain ⟨els, k, rfl, hle, hsame⟩ := h3 s els' k' rfl
        simp only at hr ⊢
        obtain ⟨a0, a1, a2⟩ := hr
        refine ⟨a0, by omega, fun hn => ?_⟩
        obtain ⟨b, q1, q2⟩ := a2 (by omega)
        exact ⟨b, by rw [(hsame (by omega)).1]; exact q1, q2⟩
      | _ => exact ⟨hr.1, trivial⟩
  | .sl i n, v, hr => by
    simp only [RA] at hr ⊢
    cases hl : L i with
    | none => simp [hl] at hr
    | some o =>
      obtain ⟨o', h1, _, h3⟩ := g i o hl
      simp only [hl] at hr
      simp only [h1]
      cases o' with
      | row s els' k' =>
        obtain ⟨els, k, rfl, hle, hsame⟩ := h3 s els' k' rfl
        simp only at hr ⊢
        obtain ⟨a0, a1, a2⟩ := hr
        exact ⟨a0, by omega, fun hn => by rw [(hsame (by omega)).2]; exact a2 (by omega)⟩
      | _ => exact ⟨hr.1, trivial⟩
  | .agg l, v, hr => by
    simp only [RA] at hr ⊢
    obtain ⟨cs, h1, h2, h3⟩ := hr
    exact ⟨cs, h1, RAs.mono h g h2, h3⟩
  | .tup l, v, hr => by
    simp only [RA] at hr ⊢
    obtain ⟨cs, h1, h2⟩ := hr
    exact ⟨cs, h1, RAs.mono h g h2⟩
  | .clo f l, v, hr => by
    simp only [RA] at hr ⊢
    obtain ⟨cs, h1, h2⟩ := hr
    exact ⟨cs, h1, RAs.mono h g h2⟩
  | .nils _, _, hr => by simpa [RA] using hr
  | .dead, _, _ => by simp [RA]
theorem RAs.mono {F F' : Fix} {G G' : Gh} {L L' : Nat → Option Obj} (h : F.le F') (g : Goes G L G' L') : ∀ {l : List AV} {vs : List Value}, RAs F G L l vs → RAs F' G' L' l vs
  | [], _, hr => by simpa [RAs] using hr
  | x :: l, vs, hr => by
    simp only [RAs] at hr ⊢
    obtain ⟨v, r, h1, h2, h3⟩ := hr
    exact ⟨v, r, h1, RA.mono h g h2, RAs.mono h g h3⟩
end

theorem RAs.length {F : Fix} {G : Gh} {L : Nat → Option Obj} : ∀ {l : List AV} {vs : List Value}, RAs F G L l vs → vs.length = l.length
  | [], _, h => by simp only [RAs] at h; simp [h]
  | _ :: l, _, h => by
    simp only [RAs] at h
    obtain ⟨v, r, rfl, _, h3⟩ := h
    simp [RAs.length h3]

theorem RAs.at {F : Fix} {G : Gh} {L : Nat → Option Obj} : ∀ {l : List AV} {vs : List Value}, RAs F G L l vs → ∀ {k : Nat} {x : AV}, l[k]? = some x → ∃ u, vs[k]? = some u ∧ RA F G L x u
  | [], _, _, k, x, hk => by simp at hk
  | y :: l, vs, h, k, x, hk => by
    simp only [RAs] at h
    obtain ⟨v, r, rfl, h2, h3⟩ := h
    cases k with
    | zero => simp at hk; subst hk; exact ⟨v, rfl, h2⟩
    | succ k => simp only [List.getElem?_cons_succ] at hk ⊢; exact RAs.at h3 hk

theorem RAs.set {F : Fix} {G : Gh} {L : Nat → Option Obj} : ∀ {l : List AV} {vs : List Value} {k : Nat} {x : AV} {v : Value}, RAs F G L l vs → RA F G L x v → RAs F G L (l.set k x) (vs.set k v)
  | [], _, _, _, _, h, _ => by simp only [RAs] at h; subst h; simp [RAs]
  | y :: l, vs, k, x, v, h, hx => by
    simp only [RAs] at h
    obtain ⟨u, r, rfl, h2, h3⟩ := h
    cases k with
    | zero => simp only [List.set_cons_zero, RAs]; exact ⟨v, r, rfl, hx, h3⟩
    | succ k => simp only [List.set_cons_succ, RAs]; exact ⟨u, _, rfl, h2, RAs.set h3 hx⟩

theorem RAs.append {F : Fix} {G : Gh} {L : Nat → Option Obj} : ∀ {l l' : List AV} {vs vs' : List Value}, RAs F G L l vs → RAs F G L l' vs' → RAs F G L (l ++ l') (vs ++ vs')
  | [], _, _, _, h, h' => by simp only [RAs] at h; subst h; simpa using h'
  | x :: l, l', vs, vs', h, h' => by
    simp only [RAs] at h
    obtain ⟨v, r, rfl, h2, h3⟩ := h
    simp only [List.cons_append, RAs]
    exact ⟨v, r ++ vs', rfl, h2, RAs.append h3 h'⟩

theorem RAs.of_Rs {F : Fix} {G : Gh} {L : Nat → Option Obj} : ∀ {l : List D} {vs : List Value}, Rs F l vs → RAs F G L (l.map .d) vs
  | [], _, h => by simp only [Rs] at h; simpa [RAs] using h
  | x :: l, vs, h => by
    simp only [Rs] at h
    obtain ⟨v, r, h1, h2, h3⟩ := h
    simp only [List.map_cons, RAs, RA]
    exact ⟨v, r, h1, h2, RAs.of_Rs h3⟩

theorem Rs.of_RAs {F : Fix} {G : Gh} {L : Nat → Option Obj} : ∀ {l : List D} {vs : List Value}, RAs F G L (l.map .d) vs → Rs F l vs
  | [], _, h => by simp only [List.map_nil, RAs] at h; simpa [Rs] using h
  | x :: l, vs, h => by
    simp only [List.map_cons, RAs, RA] at h
    obtain ⟨v, r, h1, h2, h3⟩ := h
    simp only [Rs]
    exact ⟨v, r, h1, h2, Rs.of_RAs h3⟩

/-- An object lies in memory so. -/
def ObjOk (F : Fix) (G : Gh) (L : Nat → Option Obj) (i : Nat) : Obj → Prop
  | .box _ cells => ∃ (b : Nat) (cs : Array Value) (t : TypeId), G.γ i = some b ∧ F.w.heap[b]? = some (.cells cs t (0, 0)) ∧ RAs F G L cells cs.toList ∧
      (∀ u ∈ cs.toList, u.oneCell' = true) ∧ F.m b = 0
  | .fbox s x => ∃ (b : Nat) (u : Value), G.γ i = some b ∧ R F x u ∧ u.cells.size = s ∧ (∀ y ∈ u.cells.toList, y.oneCell' = true) ∧ Mem F b 0 u.cells.toList
  | .row s els k => (G.γ i = none ∧ G.hd i = .slice none 0 0 ∧ els = [] ∧ k = 0) ∨
      ∃ (b cap : Nat) (cs : Array Value) (t : TypeId), G.γ i = some b ∧ G.hd i = .slice (some ⟨b, 0, none⟩) els.length cap ∧ els.length ≤ cap ∧ cap ≤ maxLen ∧
        F.w.heap[b]? = some (.cells cs t (0, 0)) ∧ cs.size = cap * s ∧ RE F s els (cs.toList.take (els.length * s)) ∧ F.m b = k * s ∧ k ≤ els.length
  | .gone => True

/-- The frame: nothing that was there below 'base' has turned, but for what was handed over. -/
structure Frame (base : Nat) (pass : Nat → Prop) (w w' : World) : Prop where
  os : w'.os = w.os
  tape : w'.tape = w.tape
  output : w'.output = w.output
  size : w.heap.size ≤ w'.heap.size
  block : ∀ b, b < base → ¬ pass b → w'.heap[b]? = w.heap[b]?

theorem Frame.refl (base : Nat) (pass : Nat → Prop) (w : World) : Frame base pass w w := ⟨rfl, rfl, rfl, Nat.le_refl _, fun _ _ _ => rfl⟩
theorem Frame.trans {base : Nat} {pass : Nat → Prop} {a b c : World} (h : Frame base pass a b) (k : Frame base pass b c) : Frame base pass a c :=
  ⟨k.os.trans h.os, k.tape.trans h.tape, k.output.trans h.output, Nat.le_trans h.size k.size, fun i hi hp => (k.block i hi hp).trans (h.block i hi hp)⟩

/-- One object goes on so. -/
def Went (G G' : Gh) (i : Nat) (o o' : Obj) : Prop := (o'.isBox = true → o.isBox = true ∧ G'.γ i = G.γ i) ∧
  ∀ s els' k', o' = .row s els' k' → ∃ els k, o = .row s els k ∧ els.length ≤ els'.length ∧ (els'.length = els.length → G'.γ i = G.γ i ∧ G'.hd i = G.hd i)
theorem Went.refl (G : Gh) (i : Nat) (o : Obj) : Went G G i o o := ⟨fun hb => ⟨hb, rfl⟩, fun _ els' k' he => ⟨els', k', he, Nat.le_refl _, fun _ => ⟨rfl, rfl⟩⟩⟩
theorem Went.trans {G G' G'' : Gh} {i : Nat} {o o' o'' : Obj} (h : Went G G' i o o') (k : Went G' G'' i o' o'') : Went G G'' i o o'' := by
  refine ⟨fun hb => ?_, fun s els'' k'' he => ?_⟩
  · obtain ⟨h1, h2⟩ := k.1 hb
    obtain ⟨h3, h4⟩ := h.1 h1
    exact ⟨h3, h2.trans h4⟩
  · obtain ⟨els', k', e1, e2, e3⟩ := k.2 s els'' k'' he
    obtain ⟨els, k, f1, f2, f3⟩ := h.2 s els' k' e1
    refine ⟨els, k, f1, Nat.le_trans f2 e2, fun heq => ?_⟩
    obtain ⟨a1, a2⟩ := e3 (by omega)
    obtain ⟨b1, b2⟩ := f3 (by omega)
    exact ⟨a1.trans b1, a2.trans b2⟩
/-- Where a call began: the world, and the objects that were lent to it. -/
structure Anc extends Fix where
  G0 : Gh
  L0 : Nat → Option Obj
/-- What was lent is still there. -/
def Lent (F0 : Anc) (G : Gh) (L : Nat → Option Obj) : Prop := ∀ i o, F0.L0 i = some o → 90000 ≤ i ∧ ∃ o', L i = some o' ∧ Went F0.G0 G i o o'
theorem Lent.goes {F0 : Anc} {G G' : Gh} {L L' : Nat → Option Obj} (h : Lent F0 G L) (g : Goes G L G' L') : Lent F0 G' L' := fun i o ho => by
  obtain ⟨h1, o', h2, h3⟩ := h i o ho
  obtain ⟨o'', g1, g2, g3⟩ := g i o' h2
  exact ⟨h1, o'', g1, h3.trans ⟨g2, g3⟩⟩

structure SRg (base : Nat) (pass : Nat → Prop) (F0 : Anc) (m : Nat → Nat) (G : Gh) (st : AS) (a : Act) (w : World) : Prop where
  defers : a.defers = []
  tmps : RAs ⟨w, m⟩ G (lk st.objs) st.tmps a.tmps.toList
  objs : ∀ i o, lk st.objs i = some o → ObjOk ⟨w, m⟩ G (lk st.objs) i o
  apart : ∀ i j oi oj b, lk st.objs i = some oi → lk st.objs j = some oj → oi.owns = true → oj.owns = true → G.γ i = some b → G.γ j = some b → i = j
  mine : ∀ i o b, lk st.objs i = some o → o.owns = true → G.γ i = some b → b < w.heap.size ∧ (base ≤ b ∨ pass b)
  frame : Frame base pass F0.w w
  old : ∀ b, b < base → ¬ pass b → m b = F0.m b
  new : ∀ b, w.heap.size ≤ b → m b = 0
  small : base ≤ w.heap.size
  lent : Lent F0 G (lk st.objs)

def SR (base : Nat) (pass : Nat → Prop) (F0 : Anc) (st : AS) (a : Act) (w : World) : Prop := ∃ m G, SRg base pass F0 m G st a w

end Go.Am
