/- The seat's functions are those of the laws of layer 10; arguments that are symbols. -/
import Derived.Test.YtbjckcenlfgcaaaShLsymtabH
import Derived.Test.YtbjckcenlfgcaaaShTsymtab
set_option linter.unusedVariables false
namespace Go.Proofs.Ytbjckcenlfgcaaa.symtab
open Go.Sh
theorem hp : Sub symFns pr := by
  intro x hx
  simp only [symFns, List.mem_cons, List.not_mem_nil, or_false] at hx
  rcases hx with rfl | rfl | rfl | rfl | rfl | rfl | rfl | rfl | rfl | rfl | rfl | rfl | rfl | rfl | rfl | rfl | rfl | rfl | rfl | rfl | rfl | rfl <;> rfl
theorem hq : Sub law10Fns pr := by
  intro x hx
  simp only [law10Fns, List.mem_cons, List.not_mem_nil, or_false] at hx
  rcases hx with rfl | rfl | rfl | rfl | rfl <;> rfl
theorem hOne : Sub lawOneFns pr := by
  intro x hx
  simp only [lawOneFns, List.mem_singleton] at hx
  subst hx
  rfl
theorem haw (st : St) : den pr 30 [] st = some (.d (.b true), st) := den_of_run (k := 60) (xs := []) (by kernel_rfl) st
def symTy : Ty := .agg [.int .i64, .int .i64, .int .i64, .int .i64, .int .i64, .int .i64]
theorem sym_of {el : List D} (h : Has symTy el) : ∃ x : Sym, el = x.cells ∧ x.wf := by
  simp only [symTy, Has, Hass] at h
  obtain ⟨_, _, rfl, ⟨a, rfl, a1, a2⟩, _, _, rfl, ⟨b, rfl, b1, b2⟩, _, _, rfl, ⟨c, rfl, c1, c2⟩, _, _, rfl, ⟨d, rfl, d1, d2⟩, _, _, rfl, ⟨e, rfl, e1, e2⟩, _, _, rfl, ⟨f, rfl, f1, f2⟩, rfl⟩ := h
  exact ⟨⟨a, b, c, d, e, f⟩, rfl, ⟨a1, a2⟩, ⟨b1, b2⟩, ⟨c1, c2⟩, ⟨d1, d2⟩, ⟨e1, e2⟩, ⟨f1, f2⟩⟩
theorem syms_of : ∀ {els : List (List D)}, (∀ x ∈ els, Has symTy x) → ∃ is : List Sym, els = is.map Sym.cells ∧ ∀ x ∈ is, x.wf
  | [], _ => ⟨[], rfl, fun _ h => by cases h⟩
  | x :: els, h => by
    obtain ⟨y, rfl, hy⟩ := sym_of (h x List.mem_cons_self)
    obtain ⟨is, rfl, his⟩ := syms_of fun z hz => h z (List.mem_cons_of_mem _ hz)
    refine ⟨y :: is, rfl, ?_⟩
    intro z hz
    cases hz with
    | head => exact hy
    | tail _ hz => exact his z hz
theorem all2_one {α β : Type} {R : α → β → Prop} {x : α} {ys : List β} (h : All2 R [x] ys) : ∃ y, ys = [y] ∧ R x y := by
  cases h with
  | cons h1 h2 => cases h2; exact ⟨_, rfl, h1⟩
theorem all2_three {α β : Type} {R : α → β → Prop} {x y z : α} {ys : List β} (h : All2 R [x, y, z] ys) : ∃ a b c, ys = [a, b, c] ∧ R x a ∧ R y b ∧ R z c := by
  cases h with
  | cons h1 h2 =>
    cases h2 with
    | cons h3 h4 =>
      cases h4 with
      | cons h5 h6 => cases h6; exact ⟨_, _, _, rfl, h1, h3, h5⟩
end Go.Proofs.Ytbjckcenlfgcaaa.symtab
