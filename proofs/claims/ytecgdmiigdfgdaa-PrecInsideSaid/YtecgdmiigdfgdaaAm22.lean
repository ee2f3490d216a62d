/-
  The abstract machine, part 22: from a contract to the row's own words.
-/
import Derived.Test.YtecgdmiigdfgdaaAm21
namespace Go.Am
open Go.RowKit (Below)
open Go.ChangeShapes Go.WideShapes Go.ChangeAt Go.RowKit

theorem trodAll_below {H : Type} {enc : TypeId × Value → H} {P : Program} (hl : laidOutB P = true) {W W' : World} (hb : Below W.heap.size W W') : ∀ {ts : List TypeId} {vs : List Value} {ds : List (DataW H)} {ps : List MemPlace}, (∀ t ∈ ts, P.readableRec t = true ∧ t < P.types.size) →
    DataW.TrodAll enc P W 0 (fun _ => true) true ts vs ds ps → (∀ x ∈ ps, x.block < W.heap.size) → ∀ sp : Nat → Bool, (∀ x ∈ ps, sp x.block = true) → DataW.TrodAll enc P W' 0 sp true ts vs ds ps
  | [], vs, ds, ps, _, h, _, _, _ => by
    obtain ⟨rfl, rfl, rfl⟩ := trodAll_nil h
    exact trodAll_mk0
  | t :: ts, vs, ds, ps, hr, h, hlt, sp, hsp => by
    obtain ⟨v, vs', d, ds', p, q, rfl, rfl, rfl, h1, h2⟩ := trodAll_cons h
    refine trodAll_cons_mk ?_ (trodAll_below hl hb (fun t ht => hr t (List.mem_cons_of_mem _ ht)) h2 (fun x hx => hlt x (List.mem_append_right _ hx)) sp (fun x hx => hsp x (List.mem_append_right _ hx)))
    obtain ⟨r1, r2⟩ := hr t (by simp)
    exact WideElems.Trod_stays hl r1 r2 h1 (fun x hx => hb.same (hlt x (List.mem_append_left _ hx))) (fun x hx => hsp x (List.mem_append_left _ hx))

theorem trodAll_len2 {H : Type} {enc : TypeId × Value → H} {P : Program} {W : World} {base : Nat} {spare : Nat → Bool} {held : Bool} : ∀ {ts : List TypeId} {vs : List Value} {ds : List (DataW H)} {ps : List MemPlace}, DataW.TrodAll enc P W base spare held ts vs ds ps → ds.length = ts.length
  | [], vs, ds, ps, h => by
    obtain ⟨rfl, rfl, rfl⟩ := trodAll_nil h
    rfl
  | t :: ts, vs, ds, ps, h => by
    obtain ⟨v, vs', d, ds', p, q, rfl, rfl, rfl, h1, h2⟩ := trodAll_cons h
    simp [trodAll_len2 h2]

/-- A law's contract, in the row's own words. -/
theorem law_contract {P : Program} {f : FuncId} {fn : Func} {con : Con} {s : ChangeSpec} {tb : TypeId} (hg : Good P (f, con)) (hv : s.vars = []) (hl : laidOutB P = true)
    (hr : ∀ t ∈ fn.params.toList, P.readableRec t = true ∧ t < P.types.size) (hres : fn.resultTypes = #[tb]) (htb : P.underlying tb = some .bool)
    (hspec : ∀ (H : Type) (ds : List (DataW H)), ds.length = fn.params.toList.length → s.fn H ds = { results := [.lit (.bool true)], args := ds })
    {H : Type} (enc : TypeId × Value → H) (W : World) (args : Array Value) (ds gs : List (DataW H)) (before : List MemPlace)
    (hread : ∀ ps, DataW.TrodAll enc P W 0 (fun _ => true) true fn.params.toList args.toList ds ps → ∃ xs : List D, Rs (fixOf W) xs args.toList ∧ con.pre (xs.map .d) ∧ con.fn (xs.map .d) = .d (.bool true))
    (hW : DataW.Whole enc P fn.params.toList s.vars false W args.toList ds gs before) :
    Calls P f args W fun e W' => ∃ v, e = .returned v ∧ s.post enc P fn false true false false W args v W' := by
  have hW' := hW
  obtain ⟨p, q, hA, hV, rfl, hfz, hnd⟩ := hW
  rw [hv] at hV
  obtain ⟨rfl, rfl⟩ := trodVars_none hV
  obtain ⟨xs, hR, hpre, hfn⟩ := hread p hA
  have hlen := (trodAll_len2 hA)
  refine (calls_of_good hg W xs args hR hpre hfn).mono ?_
  rintro e W' ⟨rfl, hb⟩
  have hlt : ∀ x ∈ p, x.block < W.heap.size := fun x hx => hW'.lt x (by simpa using hx)
  have hsp := hspec H (ds ++ []) (by simpa using hlen)
  rw [List.append_nil] at hsp
  refine ⟨_, rfl, ds, [], p ++ [], [], p, [], hW', ?_, ?_, ?_, hb.frame _, fun h => by cases h⟩
  · rw [List.append_nil, hsp, hres]
    exact trodAll_cons_mk (shut_bool htb _) trodAll_mk0
  · rw [List.append_nil, hsp]
    exact trodAll_below hl hb hr hA hlt _ (fun x hx => by simpa using hlt x hx)
  · rw [List.append_nil, hsp, hv]
    rfl


/-! ### data of Lean's own types -/
section
open Enc (enc dec)
/-- What is read is a datum of a Lean type. -/
def Rdt (P : Program) (t s : Nat) (ag : Bool) (α : Type) [Enc α] (ok : α → Prop) : Prop := RdP P t s ag fun x => ∃ a : α, x = enc a ∧ ok a
theorem rdt_int {P : Program} {t : Nat} (ht : P.underlying t = some (.int .i64)) : Rdt P t 1 false Int (fun a => inR .i64 a) := (rd_int ht).mono fun x h => by
  obtain ⟨n, rfl, hw⟩ := h
  refine ⟨n, rfl, ?_⟩
  show inR .i64 n
  rw [inR_i64]
  have h := hw
  simp [Lit.wf, IntKind.min, IntKind.max, IntKind.signed, IntKind.bits] at h
  omega
theorem rdt_bool {P : Program} {t : Nat} (ht : P.underlying t = some .bool) : Rdt P t 1 false Bool (fun _ => True) := (rd_bool ht).mono fun x h => by
  obtain ⟨n, rfl⟩ := h
  exact ⟨n, rfl, trivial⟩
theorem rdt_str {P : Program} {t : Nat} (ht : P.underlying t = some .string) : Rdt P t 1 false (List UInt8) (fun a => a.length ≤ maxLen) := (rd_str ht).mono fun x h => by
  obtain ⟨s, rfl, hs⟩ := h
  exact ⟨s, rfl, hs⟩
theorem list_enc {α : Type} [Enc α] {ok : α → Prop} : ∀ {l : List D}, (∀ y ∈ l, ∃ a : α, y = enc a ∧ ok a) → ∃ r : List α, l = r.map enc ∧ ∀ a ∈ r, ok a
  | [], _ => ⟨[], rfl, by simp⟩
  | y :: l, h => by
    obtain ⟨a, rfl, ha⟩ := h y (by simp)
    obtain ⟨r, rfl, hr⟩ := list_enc (l := l) fun z hz => h z (List.mem_cons_of_mem _ hz)
    exact ⟨a :: r, rfl, by
      intro b hb
      rcases List.mem_cons.1 hb with rfl | hb
      · exact ha
      · exact hr b hb⟩
theorem rdt_sl {P : Program} {t e s : Nat} {ag : Bool} {α : Type} [Enc α] [Sz α] {ok : α → Prop} (ht : P.underlying t = some (.slice e)) (hs : P.cellsOf e = s) (hz : Sz.sz α = s) (hpos : 0 < s) (he : Rdt P e s ag α ok) :
    Rdt P t 1 false (Sl α) (fun a => a.l.length ≤ maxLen ∧ ∀ y ∈ a.l, ok y) := (rd_slice ht hs hpos he).mono fun x h => by
  obtain ⟨l, rfl, hl, hy⟩ := h
  obtain ⟨r, rfl, hr⟩ := list_enc hy
  rw [List.length_map] at hl
  refine ⟨⟨r⟩, ?_, hl, hr⟩
  show D.list s (r.map enc) = D.list (Sz.sz α) (r.map enc)
  rw [hz]
end

end Go.Am
