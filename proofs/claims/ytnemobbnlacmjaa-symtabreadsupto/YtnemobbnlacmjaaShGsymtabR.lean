/- The seat's functions that SymtabReads reaches; arguments that are lists of byte strings. -/
import Derived.Test.YtnemobbnlacmjaaShLsyP
import Derived.Test.YtnemobbnlacmjaaShUsymtabR
import Derived.Test.YtnemobbnlacmjaaShTsymtabR
import Derived.Test.YtnemobbnlacmjaaShBe
set_option linter.unusedVariables false
namespace Go.Proofs.Ytnemobbnlacmjaa.symtabR
open Go.Sh
theorem hp : Sub symFns pr := by
  intro x hx
  simp only [symFns, List.mem_cons, List.not_mem_nil, or_false] at hx
  rcases hx with rfl | rfl | rfl | rfl | rfl | rfl | rfl | rfl | rfl | rfl | rfl | rfl | rfl | rfl | rfl | rfl | rfl | rfl | rfl | rfl | rfl | rfl <;> rfl
theorem hd : Sub refYFns pr := by
  intro x hx
  simp only [refYFns, List.mem_cons, List.not_mem_nil, or_false] at hx
  rcases hx with rfl | rfl | rfl <;> rfl
theorem hr : Sub refSFns pr := by
  intro x hx
  simp only [refSFns, List.mem_cons, List.not_mem_nil, or_false] at hx
  rcases hx with rfl | rfl <;> rfl
theorem hl : Sub lendFns pr := by
  intro x hx
  simp only [lendFns, List.mem_cons, List.not_mem_nil, or_false] at hx
  rcases hx with rfl | rfl | rfl <;> rfl
theorem hs : Sub syFns pr := by
  intro x hx
  simp only [syFns, List.mem_cons, List.not_mem_nil, or_false] at hx
  rcases hx with rfl | rfl | rfl | rfl | rfl | rfl | rfl | rfl <;> rfl
theorem hLaw : Sub lawYFns pr := by
  intro x hx
  simp only [lawYFns, List.mem_cons, List.not_mem_nil, or_false] at hx
  rcases hx with rfl | rfl | rfl | rfl | rfl <;> rfl
theorem haw (st : St) : den pr 30 [] st = some (.d (.b true), st) := den_of_run (k := 60) (xs := []) (by kernel_rfl) st
def txtD (x : Bool × List UInt8) : D := .sl x.2.length x.1 (byteCells x.2)
theorem texts_of : ∀ {els : List (List D)}, (∀ x ∈ els, Has (.sl 1 (.int .u8)) x) → ∃ T : List (Bool × List UInt8), els = T.map fun x => [txtD x]
  | [], _ => ⟨[], rfl⟩
  | x :: els, h => by
    have hx := h x List.mem_cons_self
    simp only [Has] at hx
    obtain ⟨es, nz, rfl, _, _, hes⟩ := hx
    obtain ⟨l, rfl⟩ := bytes_of hes
    obtain ⟨T, rfl⟩ := texts_of fun z hz => h z (List.mem_cons_of_mem _ hz)
    exact ⟨(nz, l) :: T, by simp [txtD, byC_flat]⟩
theorem flat_one {α β : Type} (f : α → β) : ∀ l : List α, (l.map fun x => [f x]).flatten = l.map f
  | [] => rfl
  | x :: l => by
    have := flat_one f l
    simp only [List.map_cons, List.flatten_cons, this, List.singleton_append]
theorem bulk_mem {d : D} : ∀ {l : List D}, d ∈ l → bulkD d ≤ bulkL l
  | x :: l, h => by
    simp only [bulkL]
    cases h with
    | head => omega
    | tail _ h => have := bulk_mem h; omega
end Go.Proofs.Ytnemobbnlacmjaa.symtabR
