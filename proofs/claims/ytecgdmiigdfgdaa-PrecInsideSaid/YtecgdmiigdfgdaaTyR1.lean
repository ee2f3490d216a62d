/-
  What is read of the arguments: types, as rows of nodes.
-/
import Derived.Test.YtecgdmiigdfgdaaTyT13
set_option linter.unusedSimpArgs false
set_option linter.unusedVariables false
namespace Go.Am.Ty
open Go.Proofs
open Enc (enc dec)

theorem all2_3 {p q r : D → Prop} {ds : List D} (h : All2 [p, q, r] ds) : ∃ a b c, ds = [a, b, c] ∧ p a ∧ q b ∧ r c := by
  match ds, h with
  | [a, b, c], h => exact ⟨a, b, c, rfl, h.1, h.2.1, h.2.2.1⟩
theorem rdNode : Rdt Try.prog 28 3 true Node (fun n => n.name.length ≤ maxLen) :=
  (rd_struct (ps := [_, _, _]) Try.underlying28 (by kernel_rfl) rfl ⟨rfl, by kernel_rfl, rdt_int Try.underlying3, rfl, by kernel_rfl, rdt_str Try.underlying9, rfl, by kernel_rfl, rdt_int Try.underlying3, trivial⟩).mono fun x h => by
    obtain ⟨ds, rfl, h⟩ := h
    obtain ⟨a, b, c, rfl, ⟨k, rfl, _⟩, ⟨s, rfl, hl⟩, ⟨n, rfl, _⟩⟩ := all2_3 h
    exact ⟨⟨k, s, n⟩, rfl, hl⟩
theorem rdNodes : Rdt Try.prog 23 1 false (Sl Node) (fun a => a.l.length ≤ maxLen ∧ ∀ y ∈ a.l, y.name.length ≤ maxLen) := rdt_sl Try.underlying23 (by kernel_rfl) rfl (by decide) rdNode

end Go.Am.Ty
