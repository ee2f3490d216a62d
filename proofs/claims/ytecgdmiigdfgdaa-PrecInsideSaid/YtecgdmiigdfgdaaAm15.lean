/-
  The abstract machine, part 15: contracts, and calls by them.
-/
import Derived.Test.YtecgdmiigdfgdaaAm14
namespace Go.Am
open Go.RowKit (Below)

/-- A slice that its holder may write on: its block is nobody else's. -/
def OwnV (F : Fix) (s : Nat) (l : List D) (v : Value) : Prop :=
  (v = .slice none 0 0 ∧ l = []) ∨ ∃ (b cap : Nat) (cs : Array Value) (t : TypeId), v = .slice (some ⟨b, 0, none⟩) l.length cap ∧ l.length ≤ cap ∧ cap ≤ maxLen ∧
    F.w.heap[b]? = some (.cells cs t (0, 0)) ∧ cs.size = cap * s ∧ RE F s l (cs.toList.take (l.length * s)) ∧ F.m b = 0
def CVR (F : Fix) : CV → Value → Prop
  | .d x, v => R F x v
  | .own s l, v => OwnV F s l v
  | .tup _, _ => False
def CVRs (F : Fix) : List CV → List Value → Prop
  | [], vs => vs = []
  | x :: l, vs => ∃ v r, vs = v :: r ∧ CVR F x v ∧ CVRs F l r
/-- The blocks that are handed over. -/
def ownsOf : List CV → List Value → List Nat
  | .own _ _ :: l, v :: vs => v.ownBlock.toList ++ ownsOf l vs
  | _ :: l, _ :: vs => ownsOf l vs
  | _, _ => []

def Res (F : Fix) (base : Nat) (pass : Nat → Prop) : CV → Value → Prop
  | .tup l, v => ∃ cs : List Value, v = .tuple cs.toArray ∧ CVRs F l cs ∧ (ownsOf l cs).Nodup ∧ ∀ b ∈ ownsOf l cs, base ≤ b ∨ pass b
  | x, v => CVRs F [x] [v] ∧ ∀ b ∈ ownsOf [x] [v], base ≤ b ∨ pass b

def Sound (P : Program) (f : FuncId) (con : Con) : Prop :=
  ∀ (m : Nat → Nat) (w : World) (cvs : List CV) (vs : List Value), con.pre cvs → CVRs ⟨w, m⟩ cvs vs → (ownsOf cvs vs).Nodup → (∀ b, w.heap.size ≤ b → m b = 0) →
    Calls P f vs.toArray w fun e w' => ∃ v m', e = .returned v ∧ Frame w.heap.size (· ∈ ownsOf cvs vs) w w' ∧ (∀ b, b < w.heap.size → b ∉ ownsOf cvs vs → m' b = m b) ∧ (∀ b, w'.heap.size ≤ b → m' b = 0) ∧
      Res ⟨w', m'⟩ w.heap.size (· ∈ ownsOf cvs vs) (con.fn cvs) v
def Enters (P : Program) (f : FuncId) : Prop := ∀ (args : Array Value) (w : World), (callFunc f args).run P w = .ok (.enter f args) w
/-- Objects that are lent: at their numbers. -/
def mkFrom : Nat → List Obj → Objs
  | _, [] => []
  | n, o :: l => (n, o) :: mkFrom (n + 1) l
def mkObjs (l : List Obj) : Objs := mkFrom 90000 l
/-- They hang together: what they look at is among them. -/
def Obj.tied (o : Objs) : Obj → Prop
  | .box _ cells => keptAll o cells
  | _ => True
def tiedAll (o : Objs) : List Obj → Prop
  | [] => True
  | x :: l => x.tied o ∧ tiedAll o l
def noneFixed : List Obj → Prop
  | [] => True
  | .row _ _ k :: l => k = 0 ∧ noneFixed l
  | _ :: l => noneFixed l
def Tied (args : List AV) (l : List Obj) : Prop := keptAll (mkObjs l) args ∧ tiedAll (mkObjs l) l
def passB (G : Gh) (l : List Obj) (b : Nat) : Prop := ∃ i o, lk (mkObjs l) i = some o ∧ o.owns = true ∧ G.γ i = some b
def SoundB (P : Program) (f : FuncId) (bc : BCon) : Prop := ∀ x, bc.ok x → Tied (bc.args x) (bc.objs x) ∧ noneFixed (bc.objs x) ∧ Tied [] (bc.post x) ∧ (bc.objs x).length ≤ (bc.post x).length ∧
  ∀ (m : Nat → Nat) (w : World) (G : Gh) (vs : List Value), SRg w.heap.size (passB G (bc.objs x)) ⟨⟨w, m⟩, G, lk (mkObjs (bc.objs x))⟩ m G ⟨bc.args x, mkObjs (bc.objs x)⟩ ⟨vs.toArray, []⟩ w →
    Calls P f vs.toArray w fun e w' => ∃ v m' G', e = .returned v ∧ R ⟨w', m'⟩ (bc.res x) v ∧ SRg w.heap.size (passB G (bc.objs x)) ⟨⟨w, m⟩, G, lk (mkObjs (bc.objs x))⟩ m' G' ⟨[], mkObjs (bc.post x)⟩ ⟨#[], []⟩ w'
def CtxOk (P : Program) (C : Ctx) : Prop := TabOk P C.τ ∧ (∀ f con, C.Γ f = some con → Enters P f ∧ Sound P f con) ∧ P.follows .mixedOrders = true ∧ ∀ f bc, C.Δ f = some bc → Enters P f ∧ SoundB P f bc

section
variable {P : Program} {C : Ctx} {G : Gh}
variable {base : Nat} {pass : Nat → Prop} {F0 : Anc} {m : Nat → Nat} {st : AS} {a : Act} {w : World}

theorem OwnV.lt {F : Fix} {s : Nat} {l : List D} {v : Value} (h : OwnV F s l v) {b : Nat} (hb : v.ownBlock = some b) : b < F.w.heap.size ∧ F.m b = 0 := by
  rcases h with ⟨rfl, _⟩ | ⟨b', cap, cs, t, rfl, _, _, h3, _, _, h6⟩
  · simp [Value.ownBlock] at hb
  · simp [Value.ownBlock] at hb
    subst hb
    refine ⟨?_, h6⟩
    rcases Nat.lt_or_ge b' F.w.heap.size with hlt | hge
    · exact hlt
    · rw [Array.getElem?_eq_none hge] at h3; cases h3

/-- The world goes on behind a call: what was handed over may have turned. -/
theorem SRg.behind (h : SRg base pass F0 m G st a w) {m' : Nat → Nat} {w' : World} (S : List Nat) (hf : Frame w.heap.size (· ∈ S) w w') (hm : ∀ b, b < w.heap.size → b ∉ S → m' b = m b) (hnew : ∀ b, w'.heap.size ≤ b → m' b = 0)
    (hS : ∀ b ∈ S, m b = 0 ∧ (base ≤ b ∨ pass b) ∧ ∀ i oi, lk st.objs i = some oi → oi.owns = true → G.γ i ≠ some b) :
    Fix.le ⟨w, m⟩ ⟨w', m'⟩ ∧ SRg base pass F0 m' G st a w' := by
  have hF : Fix.le ⟨w, m⟩ ⟨w', m'⟩ := by
    intro b
    by_cases hbS : b ∈ S
    · have := (hS b hbS).1
      exact ⟨by simp only [this]; exact Nat.zero_le _, fun off ho => by simp only [this] at ho; omega⟩
    · rcases Nat.lt_or_ge b w.heap.size with hlt | hge
      · exact ⟨by simp only; rw [hm b hlt hbS]; exact Nat.le_refl _, fun off _ => World.cell?_of_block (a := ⟨b, off, none⟩) (hf.block b hlt hbS)⟩
      · have := h.new b hge
        exact ⟨by simp only; omega, fun off ho => by simp only at ho; omega⟩
  refine ⟨hF, ?_⟩
  constructor
  · exact h.defers
  · exact RAs.mono hF (Goes.refl _ _) h.tmps
  · intro i o hi
    refine ObjOk.mono hF (Goes.refl _ _) rfl rfl (fun ho b hbb => ?_) (h.objs i o hi)
    have hlt := (h.mine i o b hi ho hbb).1
    have hnS : b ∉ S := fun hbS => (hS b hbS).2.2 i o hi ho hbb
    exact ⟨hf.block b hlt hnS, hm b hlt hnS⟩
  · exact h.apart
  · intro i o b hi ho hbb
    obtain ⟨q1, q2⟩ := h.mine i o b hi ho hbb
    exact ⟨Nat.lt_of_lt_of_le q1 hf.size, q2⟩
  · refine h.frame.trans ⟨hf.os, hf.tape, hf.output, hf.size, fun b hbb hp => hf.block b (Nat.lt_of_lt_of_le hbb h.small) (fun hbS => ?_)⟩
    rcases (hS b hbS).2.1 with h1 | h1
    · omega
    · exact hp h1
  · intro b hbb hp
    refine (hm b (Nat.lt_of_lt_of_le hbb h.small) (fun hbS => ?_)).trans (h.old b hbb hp)
    rcases (hS b hbS).2.1 with h1 | h1
    · omega
    · exact hp h1
  · exact hnew
  · exact Nat.le_trans h.small hf.size
  · exact h.lent

/-- A slice that came out of a call becomes ours. -/
theorem SRg.adopt (h : SRg base pass F0 m G st a w) {k s : Nat} {l : List D} {v : Value} (hk : lk st.objs k = none) (hv : OwnV ⟨w, m⟩ s l v)
    (hb : ∀ b, v.ownBlock = some b → (base ≤ b ∨ pass b) ∧ ∀ i oi, lk st.objs i = some oi → oi.owns = true → G.γ i ≠ some b) :
    ∃ G', Goes G (lk st.objs) G' (lk (upd st.objs k (.row s l 0))) ∧ SRg base pass F0 m G' ⟨st.tmps, upd st.objs k (.row s l 0)⟩ a w ∧ RA ⟨w, m⟩ G' (lk (upd st.objs k (.row s l 0))) (.sl k l.length) v ∧
      (∀ j, j ≠ k → G'.γ j = G.γ j) ∧ (∀ b, G'.γ k = some b → v.ownBlock = some b) := by
  have hlt := fun b hbb => hv.lt (b := b) hbb
  have hone : v.oneCell' = true := by
    rcases hv with ⟨rfl, _⟩ | ⟨_, _, _, _, rfl, _⟩ <;> rfl
  obtain ⟨q1, q2⟩ := h.obj k (.row s l 0) (w' := w) (m' := m) (G' := ⟨fun j => if j = k then v.ownBlock else G.γ j, fun j => if j = k then v else G.hd j⟩) (Fix.le_refl _)
    (fun j hj => by simp [hj]) (fun o ho => by rw [hk] at ho; cases ho) (fun _ => by
      simp only [ObjOk]
      rcases hv with ⟨rfl, rfl⟩ | ⟨b, cap, cs, t, rfl, h1, h2, h3, h4, h5, h6⟩
      · exact .inl (by simp [Value.ownBlock])
      · exact .inr ⟨b, cap, cs, t, by simp [Value.ownBlock], by simp, h1, h2, h3, h4, h5, by rw [Nat.zero_mul]; exact h6, Nat.zero_le _⟩)
    (fun _ _ _ _ _ _ _ => ⟨rfl, rfl⟩) (fun _ b hbb => by
      simp only [if_true] at hbb
      obtain ⟨g1, g2⟩ := hb b hbb
      exact ⟨(hlt b hbb).1, g1, fun j o _ hj ho => g2 j o hj ho⟩)
    (Frame.refl _ _ _) (fun _ _ _ => rfl) h.new
  refine ⟨_, q1, q2, ?_, fun j hj => by simp [hj], fun b hbb => by simpa using hbb⟩
  simp only [RA, lk_upd, if_true]
  exact ⟨hone, Nat.le_refl _, fun _ => trivial⟩

theorem R_of_OwnV_nil {F : Fix} {s : Nat} : OwnV F s [] (.slice none 0 0) := .inl ⟨rfl, rfl⟩

theorem OwnV.mono {F F' : Fix} {s : Nat} {l : List D} {v : Value} (h : F.le F') (hb : ∀ b, v.ownBlock = some b → F'.w.heap[b]? = F.w.heap[b]? ∧ F'.m b = F.m b) (hv : OwnV F s l v) : OwnV F' s l v := by
  rcases hv with h1 | ⟨b, cap, cs, t, rfl, h1, h2, h3, h4, h5, h6⟩
  · exact .inl h1
  · obtain ⟨q1, q2⟩ := hb b (by simp [Value.ownBlock])
    exact .inr ⟨b, cap, cs, t, rfl, h1, h2, by rw [q1]; exact h3, h4, RE.mono h h5, by rw [q2]; exact h6⟩

/-- What goes into a call. -/
theorem inArgs_sound : ∀ {ms : List Bool} {xs : List AV} {c : Prop} {cvs : List CV} {os : Objs} {st : AS} {m : Nat → Nat} {vs : List Value}, SRg base pass F0 m G st a w → inArgs C ms xs st.objs = some (c, cvs, os) → c →
    RAs ⟨w, m⟩ G (lk st.objs) xs vs → ∃ m', SRg base pass F0 m' G ⟨st.tmps, os⟩ a w ∧ PurOk G st.objs os ⟨w, m⟩ ⟨w, m'⟩ ∧ CVRs ⟨w, m'⟩ cvs vs ∧ (ownsOf cvs vs).Nodup ∧
      ∀ b ∈ ownsOf cvs vs, (base ≤ b ∨ pass b) ∧ (∃ i oi, lk st.objs i = some oi ∧ oi.owns = true ∧ G.γ i = some b) ∧ ∀ i oi, lk os i = some oi → oi.owns = true → G.γ i ≠ some b := by
  intro ms xs
  induction xs generalizing ms with
  | nil =>
    intro c cvs os st m vs h hi hc hr
    have hi' : some (True, ([] : List CV), st.objs) = some (c, cvs, os) := by cases ms <;> simpa [inArgs] using hi
    simp only [Option.some.injEq, Prod.mk.injEq] at hi'
    obtain ⟨rfl, rfl, rfl⟩ := hi'
    simp only [RAs] at hr
    subst hr
    exact ⟨m, h, PurOk.refl _ _ _, by simp [CVRs], by simp [ownsOf], by simp [ownsOf]⟩
  | cons x xs ih =>
    intro c cvs os st m vs h hi hc hr
    simp only [RAs] at hr
    obtain ⟨v, r, rfl, hx, hxs⟩ := hr
    -- a datum
    have datum : ∀ {ms' : List Bool} {c1 c2 : Prop} {y : D} {o1 : Objs} {l : List CV}, pur C.dp x st.objs = some (c1, y, o1) → inArgs C ms' xs o1 = some (c2, l, os) → c1 ∧ c2 →
        ∃ m', SRg base pass F0 m' G ⟨st.tmps, os⟩ a w ∧ PurOk G st.objs os ⟨w, m⟩ ⟨w, m'⟩ ∧ CVRs ⟨w, m'⟩ (.d y :: l) (v :: r) ∧ (ownsOf (.d y :: l) (v :: r)).Nodup ∧
          ∀ b ∈ ownsOf (.d y :: l) (v :: r), (base ≤ b ∨ pass b) ∧ (∃ i oi, lk st.objs i = some oi ∧ oi.owns = true ∧ G.γ i = some b) ∧ ∀ i oi, lk os i = some oi → oi.owns = true → G.γ i ≠ some b := by
      intro ms' c1 c2 y o1 l hp hi2 hcc
      obtain ⟨m1, k1, k2, k3⟩ := pur_sound' h hp hcc.1 hx
      obtain ⟨m2, j1, j2, j3, j4, j5⟩ := ih (st := ⟨st.tmps, o1⟩) k1 hi2 hcc.2 (RAs.mono k2.le k2.goes hxs)
      refine ⟨m2, j1, k2.trans j2, ?_, by simpa [ownsOf] using j4, fun b hb => ?_⟩
      · simp only [CVRs, CVR]
        exact ⟨v, r, rfl, k3.mono j2.le, j3⟩
      · obtain ⟨q1, ⟨i, oi, q2, q3, q4⟩, q5⟩ := j5 b (by simpa [ownsOf] using hb)
        obtain ⟨oj, p1, p2⟩ := k2.sub i oi q2 q3
        exact ⟨q1, ⟨i, oj, p1, p2, q4⟩, q5⟩
    cases ms with
    | nil => simp [inArgs] at hi
    | cons b0 ms =>
      cases b0 with
      | false =>
        simp only [inArgs] at hi
        split at hi
        · next c1 y o1 hp =>
          split at hi
          · next c2 l o2 hi3 =>
            simp only [Option.some.injEq, Prod.mk.injEq] at hi
            obtain ⟨rfl, rfl, rfl⟩ := hi
            exact datum hp hi3 hc
          · cases hi
        · cases hi
      | true =>
        cases x with
        | sl i n =>
          simp only [inArgs] at hi
          split at hi
          · next s els k hl =>
            split at hi
            · next c2 l o2 hi2 =>
              simp only [Option.some.injEq, Prod.mk.injEq] at hi
              obtain ⟨rfl, rfl, rfl⟩ := hi
              obtain ⟨hc2, hn, hk0⟩ := hc
              subst hk0
              simp only [RA, hl] at hx
              have hv := hx.2.2 hn
              have hok := h.objs i _ hl
              simp only [ObjOk] at hok
              obtain ⟨q1, q2⟩ := h.obj i .gone (w' := w) (m' := m) (G' := G) (Fix.le_refl _) (fun _ _ => ⟨rfl, rfl⟩) (fun o ho => ⟨by simp [Obj.isBox], by simp⟩) (fun _ => trivial)
                (fun _ _ _ _ _ _ _ => ⟨rfl, rfl⟩) (fun ho => by simp [Obj.owns] at ho) (Frame.refl _ _ _) (fun _ _ _ => rfl) h.new
              have pk : PurOk G st.objs (upd st.objs i .gone) ⟨w, m⟩ ⟨w, m⟩ := ⟨Fix.le_refl _, q1, sub_upd hl rfl, fun _ _ => rfl⟩
              obtain ⟨m2, j1, j2, j3, j4, j5⟩ := ih (st := ⟨st.tmps, upd st.objs i .gone⟩) q2 hi2 hc2 (RAs.mono (Fix.le_refl _) q1 hxs)
              -- nobody holds the block any more
              have free : ∀ b, G.γ i = some b → ∀ j oj, lk (upd st.objs i .gone) j = some oj → oj.owns = true → G.γ j ≠ some b := by
                intro b hb j oj hj hoj hbj
                rw [lk_upd] at hj
                by_cases hji : j = i
                · subst hji
                  rw [if_pos rfl] at hj
                  injection hj with hj
                  subst hj
                  simp [Obj.owns] at hoj
                · rw [if_neg hji] at hj
                  exact hji (h.apart j i oj _ b hj hl hoj rfl hbj hb)
              have free2 : ∀ b, G.γ i = some b → ∀ j oj, lk o2 j = some oj → oj.owns = true → G.γ j ≠ some b := by
                intro b hb j oj hj hoj
                obtain ⟨ok, p1, p2⟩ := j2.sub j oj hj hoj
                exact free b hb j ok p1 p2
              rcases hok with ⟨h1, h2, rfl, _⟩ | ⟨b, cap, cs, t, h1, h2, h3, h4, h5, h6, h7, h8, h9⟩
              · rw [h2] at hv
                subst hv
                refine ⟨m2, j1, pk.trans j2, ?_, by simpa [ownsOf, Value.ownBlock] using j4, fun b hb => ?_⟩
                · simp only [CVRs, CVR]
                  exact ⟨_, r, rfl, R_of_OwnV_nil, j3⟩
                · obtain ⟨p1, ⟨i', oi, p2, p3, p4⟩, p5⟩ := j5 b (by simpa [ownsOf, Value.ownBlock] using hb)
                  obtain ⟨oj, u1, u2⟩ := pk.sub i' oi p2 p3
                  exact ⟨p1, ⟨i', oj, u1, u2, p4⟩, p5⟩
              · rw [h2] at hv
                subst hv
                have hm2 : m2 b = m b := j2.same b (fun j oj hj hoj => free b h1 j oj hj hoj)
                have hown : OwnV ⟨w, m2⟩ s els (.slice (some ⟨b, 0, none⟩) els.length cap) := .inr ⟨b, cap, cs, t, rfl, h3, h4, h5, h6, RE.mono j2.le h7, by simp only [hm2]; simpa using h8⟩
                have hmine := h.mine i _ b hl rfl h1
                refine ⟨m2, j1, pk.trans j2, ?_, ?_, fun b' hb' => ?_⟩
                · simp only [CVRs, CVR]
                  exact ⟨_, r, rfl, hown, j3⟩
                · simp only [ownsOf, Value.ownBlock, Option.toList, List.singleton_append, List.nodup_cons]
                  refine ⟨fun hmem => ?_, j4⟩
                  obtain ⟨_, ⟨i', oi, p2, p3, p4⟩, _⟩ := j5 b hmem
                  exact free b h1 i' oi p2 p3 p4
                · simp only [ownsOf, Value.ownBlock, Option.toList, List.singleton_append, List.mem_cons] at hb'
                  rcases hb' with rfl | hb'
                  · exact ⟨hmine.2, ⟨i, _, hl, rfl, h1⟩, free2 b' h1⟩
                  · obtain ⟨p1, ⟨i', oi, p2, p3, p4⟩, p5⟩ := j5 b' hb'
                    obtain ⟨oj, u1, u2⟩ := pk.sub i' oi p2 p3
                    exact ⟨p1, ⟨i', oj, u1, u2, p4⟩, p5⟩
            · cases hi
          · cases hi
        | nils s =>
          simp only [inArgs] at hi
          split at hi
          · next c2 l o2 hi2 =>
            simp only [Option.some.injEq, Prod.mk.injEq] at hi
            obtain ⟨rfl, rfl, rfl⟩ := hi
            simp only [RA] at hx
            subst hx
            obtain ⟨m2, j1, j2, j3, j4, j5⟩ := ih h hi2 hc hxs
            refine ⟨m2, j1, j2, ?_, by simpa [ownsOf, Value.ownBlock] using j4, fun b hb => j5 b (by simpa [ownsOf, Value.ownBlock] using hb)⟩
            simp only [CVRs, CVR]
            exact ⟨_, r, rfl, R_of_OwnV_nil, j3⟩
          · cases hi
        | _ => simp [inArgs] at hi

theorem outOne_sound (h : SRg base pass F0 m G st a w) {k : Nat} {x : CV} {v : Value} {y : AV} {os : Objs} (hx : CVR ⟨w, m⟩ x v) (hh : outOne k x st.objs = some (y, os))
    (hb : ∀ b ∈ ownsOf [x] [v], (base ≤ b ∨ pass b) ∧ ∀ i oi, lk st.objs i = some oi → oi.owns = true → G.γ i ≠ some b) :
    ∃ G', Goes G (lk st.objs) G' (lk os) ∧ SRg base pass F0 m G' ⟨st.tmps, os⟩ a w ∧ RA ⟨w, m⟩ G' (lk os) y v ∧
      ∀ i oi b, lk os i = some oi → oi.owns = true → G'.γ i = some b → (∃ oj, lk st.objs i = some oj ∧ oj.owns = true ∧ G.γ i = some b) ∨ b ∈ ownsOf [x] [v] := by
  cases x with
  | d x =>
    simp only [outOne, Option.some.injEq, Prod.mk.injEq] at hh
    obtain ⟨rfl, rfl⟩ := hh
    exact ⟨G, Goes.refl _ _, h, by simpa only [RA, CVR] using hx, fun i oi b hi ho hg => .inl ⟨oi, hi, ho, hg⟩⟩
  | own s l =>
    simp only [outOne] at hh
    split at hh
    · next hk =>
      simp only [Option.some.injEq, Prod.mk.injEq] at hh
      obtain ⟨rfl, rfl⟩ := hh
      obtain ⟨G', q1, q2, q3, q4, q5⟩ := h.adopt hk hx (fun b hbb => hb b (by simp [ownsOf, hbb]))
      refine ⟨G', q1, q2, q3, fun i oi b hi ho hg => ?_⟩
      by_cases hik : i = k
      · subst hik
        exact .inr (by simp [ownsOf, q5 b hg])
      · rw [lk_upd, if_neg hik] at hi
        rw [q4 i hik] at hg
        exact .inl ⟨oi, hi, ho, hg⟩
    · cases hh
  | tup l => simp [outOne] at hh

theorem outAll_sound : ∀ {l : List CV} {k : Nat} {ys : List AV} {vs : List Value} {os : Objs} {G : Gh} {st : AS}, SRg base pass F0 m G st a w → CVRs ⟨w, m⟩ l vs → outAll k l st.objs = some (ys, os) → (ownsOf l vs).Nodup →
    (∀ b ∈ ownsOf l vs, (base ≤ b ∨ pass b) ∧ ∀ i oi, lk st.objs i = some oi → oi.owns = true → G.γ i ≠ some b) →
    ∃ G', Goes G (lk st.objs) G' (lk os) ∧ SRg base pass F0 m G' ⟨st.tmps, os⟩ a w ∧ RAs ⟨w, m⟩ G' (lk os) ys vs
  | [], k, ys, vs, os, G, st, h, hc, hh, _, _ => by
    simp only [outAll, Option.some.injEq, Prod.mk.injEq] at hh
    obtain ⟨rfl, rfl⟩ := hh
    simp only [CVRs] at hc
    exact ⟨G, Goes.refl _ _, h, by simpa only [RAs] using hc⟩
  | x :: l, k, ys, vs, os, G, st, h, hc, hh, hnd, hb => by
    simp only [CVRs] at hc
    obtain ⟨v, r, rfl, hx, hxs⟩ := hc
    simp only [outAll] at hh
    split at hh
    · next y o1 h1 =>
      split at hh
      · next ys2 o2 h2 =>
        simp only [Option.some.injEq, Prod.mk.injEq] at hh
        obtain ⟨rfl, rfl⟩ := hh
        have hsplit : ownsOf (x :: l) (v :: r) = ownsOf [x] [v] ++ ownsOf l r := by cases x <;> simp [ownsOf]
        rw [hsplit] at hnd hb
        obtain ⟨n1, n2, n3⟩ := List.nodup_append.1 hnd
        obtain ⟨G1, q1, q2, q3, q4⟩ := outOne_sound h hx h1 (fun b hbb => hb b (List.mem_append_left _ hbb))
        obtain ⟨G2, p1, p2, p3⟩ := outAll_sound (st := ⟨st.tmps, o1⟩) q2 hxs h2 n2 (fun b hbb => by
          refine ⟨(hb b (List.mem_append_right _ hbb)).1, fun i oi hi ho hg => ?_⟩
          rcases q4 i oi b hi ho hg with ⟨oj, w1, w2, w3⟩ | hmem
          · exact (hb b (List.mem_append_right _ hbb)).2 i oj w1 w2 w3
          · exact n3 b hmem b hbb rfl)
        refine ⟨G2, ?_, p2, ?_⟩
        · intro j o hj
          obtain ⟨oa, a1, a2, a3⟩ := q1 j o hj
          obtain ⟨ob, b1, b2, b3⟩ := p1 j oa a1
          refine ⟨ob, b1, fun hbx => ?_, fun s' els' k' he => ?_⟩
          · obtain ⟨u1, u2⟩ := b2 hbx
            obtain ⟨u3, u4⟩ := a2 u1
            exact ⟨u3, u2.trans u4⟩
          · obtain ⟨els1, kk1, e1, e2, e3⟩ := b3 s' els' k' he
            obtain ⟨els2, kk2, f1, f2, f3⟩ := a3 s' els1 kk1 e1
            refine ⟨els2, kk2, f1, Nat.le_trans f2 e2, fun hl => ?_⟩
            obtain ⟨u1, u2⟩ := e3 (by omega)
            obtain ⟨u3, u4⟩ := f3 (by omega)
            exact ⟨u1.trans u3, u2.trans u4⟩
        · simp only [RAs]
          exact ⟨v, r, rfl, RA.mono (Fix.le_refl _) p1 q3, p3⟩
      · cases hh
    · cases hh

/-- A call, by its contract. -/
theorem call_sound (K : CtxOk P C) (h : SRg base pass F0 m G st a w) {f k : Nat} {xs : List AV} {vs : List Value} {c : Prop} {z : AV} {os : Objs} (hx : RAs ⟨w, m⟩ G (lk st.objs) xs vs)
    (hh : hCall C f xs k st.objs = some (c, z, os)) (hc : c) :
    Enters P f ∧ Calls P f vs.toArray w fun e w' => ∃ v m' G', e = .returned v ∧ SRg base pass F0 m' G' ⟨st.tmps, os⟩ a w' ∧ RA ⟨w', m'⟩ G' (lk os) z v := by
  unfold hCall at hh
  split at hh
  · next con hcon =>
    split at hh
    · next c1 cvs o1 hin =>
      split at hh
      · next y o2 hout =>
        simp only [Option.some.injEq, Prod.mk.injEq] at hh
        obtain ⟨rfl, rfl, rfl⟩ := hh
        obtain ⟨hent, hsnd⟩ := K.2.1 f con hcon
        refine ⟨hent, ?_⟩
        obtain ⟨m1, k1, k2, k3, k4, k5⟩ := inArgs_sound h hin hc.1 hx
        refine (hsnd m1 w cvs vs hc.2 k3 k4 k1.new).mono fun e w' hw => ?_
        obtain ⟨v, m', rfl, g1, g2, g3, g4⟩ := hw
        have hz : ∀ b ∈ ownsOf cvs vs, m1 b = 0 := by
          have : ∀ (l : List CV) (us : List Value), CVRs ⟨w, m1⟩ l us → ∀ b ∈ ownsOf l us, m1 b = 0 := by
            intro l
            induction l with
            | nil => intro us hu b hb; simp [ownsOf] at hb
            | cons x l ih =>
              intro us hu b hb
              simp only [CVRs] at hu
              obtain ⟨u, r, rfl, hx1, hxs1⟩ := hu
              have hsplit : ownsOf (x :: l) (u :: r) = ownsOf [x] [u] ++ ownsOf l r := by cases x <;> simp [ownsOf]
              rw [hsplit] at hb
              rcases List.mem_append.1 hb with hb | hb
              · cases x with
                | own s els =>
                  simp [ownsOf] at hb
                  exact (OwnV.lt hx1 hb).2
                | _ => simp [ownsOf] at hb
              · exact ih r hxs1 b hb
          exact this cvs vs k3
        obtain ⟨hF, hs⟩ := k1.behind (ownsOf cvs vs) g1 g2 g3 (fun b hb => ⟨hz b hb, (k5 b hb).1, (k5 b hb).2.2⟩)
        have hfree : ∀ b, w.heap.size ≤ b ∨ b ∈ ownsOf cvs vs → (base ≤ b ∨ pass b) ∧ ∀ i oi, lk o1 i = some oi → oi.owns = true → G.γ i ≠ some b := by
          intro b hb
          rcases hb with hb | hb
          · refine ⟨.inl (Nat.le_trans k1.small hb), fun i oi hi ho hg => ?_⟩
            have := (k1.mine i oi b hi ho hg).1
            omega
          · exact ⟨(k5 b hb).1, (k5 b hb).2.2⟩
        unfold outCV at hout
        split at hout
        · next l hfn =>
          split at hout
          · next ys o3 hall =>
            simp only [Option.some.injEq, Prod.mk.injEq] at hout
            obtain ⟨rfl, rfl⟩ := hout
            rw [hfn] at g4
            simp only [Res] at g4
            obtain ⟨cs, rfl, e1, e2, e3⟩ := g4
            obtain ⟨G', p1, p2, p3⟩ := outAll_sound hs e1 hall e2 (fun b hb => hfree b (e3 b hb))
            exact ⟨_, m', G', rfl, p2, mkTup_sound p3⟩
          · cases hout
        · next x hnt =>
          have g4' : CVRs ⟨w', m'⟩ [con.fn cvs] [v] ∧ ∀ b ∈ ownsOf [con.fn cvs] [v], w.heap.size ≤ b ∨ b ∈ ownsOf cvs vs := by
            revert g4
            cases hq : con.fn cvs with
            | tup l => exact absurd hq (hnt l)
            | _ => exact fun g => g
          obtain ⟨e1, e2⟩ := g4'
          simp only [CVRs] at e1
          obtain ⟨v', r, ev, hv', _⟩ := e1
          simp only [List.cons.injEq] at ev
          rw [← ev.1] at hv'
          obtain ⟨G', p1, p2, p3, _⟩ := outOne_sound hs hv' hout (fun b hb => hfree b (e2 b hb))
          exact ⟨v, m', G', rfl, p2, p3⟩
      · cases hh
    · cases hh
  · cases hh

end
end Go.Am
