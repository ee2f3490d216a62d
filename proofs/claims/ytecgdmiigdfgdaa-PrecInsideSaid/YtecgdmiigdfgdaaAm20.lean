/-
  The abstract machine, part 20: loops, by what they carry round.
-/
import Derived.Test.YtecgdmiigdfgdaaAm19
namespace Go.Am

def killAll : List AV → List Nat → List AV
  | l, [] => l
  | l, i :: r => killAll (l.set i .dead) r
def setSlots : List AV → List (Nat × AV) → List AV
  | l, [] => l
  | l, (i, x) :: r => setSlots (l.set i x) r
def updAll : Objs → List (Nat × Obj) → Objs
  | o, [] => o
  | o, (i, x) :: r => updAll (upd o i x) r
/-- The state at a loop's head: what the loop writes is dead, but for what it carries round. -/
def atHead (st : AS) (kills : List Nat) (vals : List (Nat × AV)) (objs : List (Nat × Obj)) : AS := ⟨setSlots (killAll st.tmps kills) vals, updAll st.objs objs⟩

/-- Shut: what is inside is not looked at till 'shut_eq' opens it. -/
structure Shut (p : Prop) : Prop where
  out : p
theorem shut_eq {p : Prop} : Shut p = p := propext ⟨fun h => h.out, fun h => ⟨h⟩⟩

theorem aLoop_kill {C : Ctx} {c : Code} {Q : AExit → AS → Prop} {st : AS} (kills : List Nat) {α : Type} (vals : α → List (Nat × AV)) (objs : α → List (Nat × Obj)) (ok : α → Prop) (μ : α → Nat) (a0 : α) (h0 : ok a0)
    (hw : Wk st (atHead st kills (vals a0) (objs a0))) (h : ∀ a, ok a → Shut (awp C c (aThen (fun s' => ∃ a', Wk s' (atHead st kills (vals a') (objs a')) ∧ ok a' ∧ μ a' < μ a) Q) (atHead st kills (vals a) (objs a)))) : aLoop C c Q st :=
  ⟨α, fun a => atHead st kills (vals a) (objs a), ok, μ, ⟨a0, hw, h0⟩, fun a ha => (h a ha).out⟩

theorem atHead_mk (t : List AV) (o : Objs) (kills : List Nat) (vals : List (Nat × AV)) (objs : List (Nat × Obj)) : atHead ⟨t, o⟩ kills vals objs = ⟨setSlots (killAll t kills) vals, updAll o objs⟩ := rfl

/-- A contract that asks more, and tells the same. -/
theorem Good.asksMore {P : Program} {f : Nat} {con con' : Con} (h : Good P (f, con)) (hc : ∀ c, con'.pre c → con.pre c ∧ con'.fn c = con.fn c) : Good P (f, con') := by
  refine ⟨h.1, fun m w cvs vs hp hcv hnd hnew => ?_⟩
  obtain ⟨h1, h2⟩ := hc cvs hp
  have := h.2 m w cvs vs h1 hcv hnd hnew
  simp only [h2]
  exact this

/-- A test at a loop's head: the side is known before the code is looked at. -/
theorem ltB_cases (a b : Nat) : (a < b ∧ ltB (a : Int) (b : Int) = true) ∨ (b ≤ a ∧ ltB (a : Int) (b : Int) = false) := by
  rcases Nat.lt_or_ge a b with h | h
  · exact .inl ⟨h, by rw [ltB_true]; omega⟩
  · exact .inr ⟨h, by rw [ltB_false]; omega⟩
theorem ltB_casesI (a b : Int) : (a < b ∧ ltB a b = true) ∨ (b ≤ a ∧ ltB a b = false) := by
  rcases Int.lt_or_le a b with h | h
  · exact .inl ⟨h, by rw [ltB_true]; exact h⟩
  · exact .inr ⟨h, by rw [ltB_false]; exact h⟩
theorem leB_cases (a b : Int) : (a ≤ b ∧ leB a b = true) ∨ (b < a ∧ leB a b = false) := by
  rcases Int.lt_or_le b a with h | h
  · exact .inr ⟨h, by rw [leB_false]; exact h⟩
  · exact .inl ⟨h, by rw [leB_true]; exact h⟩

section
open Enc (enc dec)
theorem map_snoc {α : Type} [Enc α] {l : List α} {x : α} : l.map (enc : α → D) ++ [enc x] = (l ++ [x]).map enc := by simp
theorem map_snocI {l : List Int} {x : Int} : l.map (enc : Int → D) ++ [.int .i64 x] = (l ++ [x]).map enc := by simp
theorem map_snocB {l : List Bool} {x : Bool} : l.map (enc : Bool → D) ++ [.bool x] = (l ++ [x]).map enc := by simp
theorem map_snocS {l : List (List UInt8)} {x : List UInt8} : l.map (enc : List UInt8 → D) ++ [.str x] = (l ++ [x]).map enc := by simp
theorem map_cat {α : Type} [Enc α] {l r : List α} : l.map (enc : α → D) ++ r.map enc = (l ++ r).map enc := by simp
end

end Go.Am
