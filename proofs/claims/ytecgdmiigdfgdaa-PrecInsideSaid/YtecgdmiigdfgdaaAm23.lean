/-
  The abstract machine, part 23: slots in chunks of sixteen: what is reckoned stays small.
-/
import Derived.Test.YtecgdmiigdfgdaaAm22
set_option linter.unusedVariables false
namespace Go.Am

def pad16 : Nat → List AV → List AV
  | 0, _ => []
  | n + 1, [] => .dead :: pad16 n []
  | n + 1, x :: l => x :: pad16 n l
theorem pad16_len : ∀ (n : Nat) (l : List AV), (pad16 n l).length = n
  | 0, _ => rfl
  | n + 1, [] => by simp [pad16, pad16_len n]
  | n + 1, x :: l => by simp [pad16, pad16_len n]
theorem pad16_getD : ∀ (n : Nat) (l : List AV) (t : Nat), t < n → (pad16 n l).getD t .dead = l.getD t .dead
  | 0, _, t, h => by omega
  | n + 1, [], 0, _ => by simp [pad16]
  | n + 1, [], t + 1, h => by
    have := pad16_getD n [] t (by omega)
    simpa [pad16] using this
  | n + 1, x :: l, 0, _ => by simp [pad16]
  | n + 1, x :: l, t + 1, h => by
    have := pad16_getD n l t (by omega)
    simpa [pad16] using this
/-- A slot of a chunk is filled. -/
def putC : Nat → AV → List AV → List AV
  | 0, x, [] => [x]
  | n + 1, x, [] => .dead :: putC n x []
  | 0, x, _ :: l => x :: l
  | n + 1, x, y :: l => y :: putC n x l
theorem pad16_put : ∀ (n : Nat) (l : List AV) (t : Nat) (x : AV), t < n → (pad16 n l).set t x = pad16 n (putC t x l)
  | 0, _, t, _, h => by omega
  | n + 1, [], 0, x, _ => by simp [pad16, putC]
  | n + 1, [], t + 1, x, h => by
    have := pad16_put n [] t x (by omega)
    simpa [pad16, putC] using this
  | n + 1, y :: l, 0, x, _ => by simp [pad16, putC]
  | n + 1, y :: l, t + 1, x, h => by
    have := pad16_put n l t x (by omega)
    simpa [pad16, putC] using this
/-- Chunks, and what is left. -/
def fl : List (List AV) → List AV → List AV
  | [], r => r
  | c :: cs, r => pad16 16 c ++ fl cs r
def getC : List (List AV) → List AV → Nat → Nat → AV
  | [], r, a, b => r.getD (16 * a + b) .dead
  | c :: _, _, 0, b => c.getD b .dead
  | _ :: cs, r, a + 1, b => getC cs r a b
theorem getD_fl : ∀ (cs : List (List AV)) (r : List AV) (a b : Nat), b < 16 → (fl cs r).getD (16 * a + b) .dead = getC cs r a b
  | [], r, a, b, _ => rfl
  | c :: cs, r, 0, b, hb => by
    simp only [fl, getC, Nat.mul_zero, Nat.zero_add]
    rw [List.getD_eq_getElem?_getD, List.getElem?_append_left (by rw [pad16_len]; exact hb), ← List.getD_eq_getElem?_getD]
    exact pad16_getD 16 c b hb
  | c :: cs, r, a + 1, b, hb => by
    simp only [fl, getC]
    rw [List.getD_eq_getElem?_getD, List.getElem?_append_right (by rw [pad16_len]; omega), ← List.getD_eq_getElem?_getD, pad16_len, show 16 * (a + 1) + b - 16 = 16 * a + b by omega]
    exact getD_fl cs r a b hb
theorem getD_fl' (cs : List (List AV)) (r : List AV) (t : Nat) : (fl cs r).getD t .dead = getC cs r (t / 16) (t % 16) := by
  rw [← getD_fl cs r (t / 16) (t % 16) (Nat.mod_lt _ (by omega)), Nat.div_add_mod]
/-- A slot is filled: the chunk, and the place in it. -/
def setC : List (List AV) → List AV → Nat → Nat → AV → List AV
  | [], r, a, b, x => r.set (16 * a + b) x
  | c :: cs, r, 0, b, x => fl (putC b x c :: cs) r
  | c :: cs, r, a + 1, b, x => pad16 16 c ++ setC cs r a b x
theorem set_flC : ∀ (cs : List (List AV)) (r : List AV) (a b : Nat) (x : AV), b < 16 → (fl cs r).set (16 * a + b) x = setC cs r a b x
  | [], r, a, b, x, _ => rfl
  | c :: cs, r, 0, b, x, hb => by
    simp only [fl, setC, Nat.mul_zero, Nat.zero_add]
    rw [List.set_append_left _ _ (by rw [pad16_len]; exact hb), pad16_put 16 c b x hb]
  | c :: cs, r, a + 1, b, x, hb => by
    simp only [fl, setC]
    rw [List.set_append_right _ _ (by rw [pad16_len]; omega), pad16_len, show 16 * (a + 1) + b - 16 = 16 * a + b by omega, set_flC cs r a b x hb]
/-- The same, as chunks again: the chunks ahead are handed on. -/
def setCs : List (List AV) → List AV → Nat → Nat → AV → List (List AV) × List AV
  | [], r, a, b, x => ([], r.set (16 * a + b) x)
  | c :: cs, r, 0, b, x => (putC b x c :: cs, r)
  | c :: cs, r, a + 1, b, x => (c :: (setCs cs r a b x).1, (setCs cs r a b x).2)
theorem setC_fl : ∀ (cs : List (List AV)) (r : List AV) (a b : Nat) (x : AV), setC cs r a b x = fl (setCs cs r a b x).1 (setCs cs r a b x).2
  | [], r, a, b, x => rfl
  | c :: cs, r, 0, b, x => rfl
  | c :: cs, r, a + 1, b, x => by
    simp only [setC, setCs, fl]
    rw [setC_fl cs r a b x]
theorem set_fl (cs : List (List AV)) (r : List AV) (t : Nat) (x : AV) : (fl cs r).set t x = fl (setCs cs r (t / 16) (t % 16) x).1 (setCs cs r (t / 16) (t % 16) x).2 := by
  rw [← setC_fl, ← set_flC cs r (t / 16) (t % 16) x (Nat.mod_lt _ (by omega)), Nat.div_add_mod]
theorem killK_app (i : Nat) : ∀ (a b : List AV), killK i (a ++ b) = killK i a ++ killK i b
  | [], _ => rfl
  | x :: a, b => by simp [killK, killK_app i a b]
theorem killK_pad (i : Nat) : ∀ (n : Nat) (l : List AV), killK i (pad16 n l) = pad16 n (killK i l)
  | 0, _ => rfl
  | n + 1, [] => by
    have := killK_pad i n []
    simp only [killK] at this
    simp [pad16, killK, AV.off, this]
  | n + 1, x :: l => by simp [pad16, killK, killK_pad i n l]
def killCs (i : Nat) : List (List AV) → List (List AV)
  | [] => []
  | c :: cs => killK i c :: killCs i cs
theorem killK_fl (i : Nat) : ∀ (cs : List (List AV)) (r : List AV), killK i (fl cs r) = fl (killCs i cs) (killK i r)
  | [], _ => rfl
  | c :: cs, r => by simp only [fl, killCs, killK_app, killK_pad, killK_fl i cs r]

/-! ### less is known -/
theorem wkT_app {o1 o2 : Objs} : ∀ {a a' b b' : List AV}, wkT o1 o2 a a' → wkT o1 o2 b b' → wkT o1 o2 (a ++ b) (a' ++ b')
  | [], [], _, _, _, h => h
  | [], _ :: _, _, _, h, _ => h.elim
  | _ :: _, [], _, _, h, _ => h.elim
  | x :: a, y :: a', b, b', h, h' => ⟨h.1, wkT_app h.2 h'⟩
theorem wkT_pad {o1 o2 : Objs} : ∀ {n : Nat} {a a' : List AV}, wkT o1 o2 a a' → wkT o1 o2 (pad16 n a) (pad16 n a')
  | 0, _, _, _ => trivial
  | n + 1, [], [], _ => ⟨by simp [wk1], wkT_pad (a := []) (a' := []) trivial⟩
  | n + 1, [], _ :: _, h => h.elim
  | n + 1, _ :: _, [], h => h.elim
  | n + 1, x :: a, y :: a', h => ⟨h.1, wkT_pad h.2⟩
def wkCs (o1 o2 : Objs) : List (List AV) → List (List AV) → Prop
  | [], [] => True
  | c :: cs, d :: ds => wkT o1 o2 c d ∧ wkCs o1 o2 cs ds
  | _, _ => False
theorem wkT_fl {o1 o2 : Objs} : ∀ {cs ds : List (List AV)} {r r' : List AV}, wkCs o1 o2 cs ds → wkT o1 o2 r r' → wkT o1 o2 (fl cs r) (fl ds r')
  | [], [], _, _, _, h => h
  | [], _ :: _, _, _, h, _ => h.elim
  | _ :: _, [], _, _, h, _ => h.elim
  | c :: cs, d :: ds, r, r', h, h' => wkT_app (wkT_pad h.1) (wkT_fl h.2 h')
theorem Wk.of_fl {cs ds : List (List AV)} {r r' : List AV} {o o' : Objs} (h : wkCs o o' cs ds ∧ wkT o o' r r' ∧ wkO o o' o' ∧ wkK o' o) : Wk ⟨fl cs r, o⟩ ⟨fl ds r', o'⟩ :=
  ⟨wkT_fl h.1 h.2.1, h.2.2.1, h.2.2.2⟩

/-! ### into chunks -/
def chk : Nat → List AV → List (List AV) × List AV
  | 0, l => ([], l)
  | n + 1, l => (l.take 16 :: (chk n (l.drop 16)).1, (chk n (l.drop 16)).2)
theorem pad16_full : ∀ (n : Nat) (l : List AV), l.length = n → pad16 n l = l
  | 0, [], _ => rfl
  | 0, _ :: _, h => by simp at h
  | n + 1, [], h => by simp at h
  | n + 1, x :: l, h => by simp only [pad16, pad16_full n l (by simpa using h)]
theorem chk_fl : ∀ (n : Nat) (l : List AV), 16 * n ≤ l.length → fl (chk n l).1 (chk n l).2 = l
  | 0, l, _ => rfl
  | n + 1, l, h => by
    simp only [chk, fl]
    rw [pad16_full 16 (l.take 16) (by rw [List.length_take]; omega), chk_fl n (l.drop 16) (by rw [List.length_drop]; omega), List.take_append_drop]
theorem awp_chk {C : Ctx} {c : Code} {Q : AExit → AS → Prop} {t : List AV} {o : Objs} (n : Nat) (hn : 16 * n ≤ t.length) (h : Shut (awp C c Q ⟨fl (chk n t).1 (chk n t).2, o⟩)) : awp C c Q ⟨t, o⟩ := by
  have := h.out
  rw [chk_fl n t hn] at this
  exact this

end Go.Am
