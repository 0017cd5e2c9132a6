/- The seat's functions that SymtabWrites reaches; arguments that are lists of symbols. -/
import Derived.Test.YtbjckcenlfgcaaaShLsymtabO
import Derived.Test.YtbjckcenlfgcaaaShLsymtabG
import Derived.Test.YtbjckcenlfgcaaaShUsymtab
import Derived.Test.YtbjckcenlfgcaaaShTsymtabW
import Derived.Test.YtbjckcenlfgcaaaShBe
set_option linter.unusedVariables false
namespace Go.Proofs.Ytbjckcenlfgcaaa.symtabW
open Go.Sh
theorem hp : Sub symFns pr := by
  intro x hx
  simp only [symFns, List.mem_cons, List.not_mem_nil, or_false] at hx
  rcases hx with rfl | rfl | rfl | rfl | rfl | rfl | rfl | rfl | rfl | rfl | rfl | rfl | rfl | rfl | rfl | rfl | rfl | rfl | rfl | rfl | rfl | rfl <;> rfl
theorem hb : Sub bookFns pr := by
  intro x hx
  simp only [bookFns, List.mem_cons, List.not_mem_nil, or_false] at hx
  rcases hx with rfl | rfl | rfl | rfl | rfl | rfl | rfl | rfl | rfl <;> rfl
theorem hd : Sub deskFns pr := by
  intro x hx
  simp only [deskFns, List.mem_cons, List.not_mem_nil, or_false] at hx
  rcases hx with rfl | rfl | rfl | rfl <;> rfl
theorem hr : Sub refWFns pr := by
  intro x hx
  simp only [refWFns, List.mem_cons, List.not_mem_nil, or_false] at hx
  rcases hx with rfl | rfl | rfl | rfl <;> rfl
theorem hLaw : Sub lawWFns pr := by
  intro x hx
  simp only [lawWFns, List.mem_cons, List.not_mem_nil, or_false] at hx
  rcases hx with rfl | rfl <;> rfl
theorem hnum (x : Int) (st : St) : den pr 12 [.d (.i .i64 x)] st = some (.d (.i .i64 x), st) := den_shut (fn := F12_spindlelaw0_Num) rfl rfl rfl (by simp; rfl) (by simp [F12_spindlelaw0_Num])
theorem haw (st : St) : den pr 30 [] st = some (.d (.b true), st) := den_of_run (k := 60) (xs := []) (by kernel_rfl) st
theorem small {H : Type} {l : List (DataW H)} (h : Rows.uptoSmall H l = true) : bulkWs l ≤ 1048576 := symtab.small h
theorem symss_of : ∀ {els : List (List D)}, (∀ x ∈ els, Has (.sl 48 symtab.symTy) x) → ∃ ls : List (Bool × List Sym), els = (ls.map fun x => [symsD x]) ∧ ∀ x ∈ ls, ∀ y ∈ x.2, y.wf
  | [], _ => ⟨[], rfl, fun _ h => by cases h⟩
  | x :: els, h => by
    have hx := h x List.mem_cons_self
    simp only [Has] at hx
    obtain ⟨es, nz, rfl, _, _, hes⟩ := hx
    obtain ⟨is, rfl, his⟩ := symtab.syms_of hes
    obtain ⟨ls, rfl, hls⟩ := symss_of fun z hz => h z (List.mem_cons_of_mem _ hz)
    refine ⟨(nz, is) :: ls, by simp [symsD], ?_⟩
    intro z hz
    cases hz with
    | head => exact his
    | tail _ hz => exact hls z hz
theorem flat_one {α β : Type} (f : α → β) : ∀ l : List α, (l.map fun x => [f x]).flatten = l.map f
  | [] => rfl
  | x :: l => by
    have := flat_one f l
    simp only [List.map_cons, List.flatten_cons, this, List.singleton_append]
theorem bulk_mem {d : D} : ∀ {l : List D}, d ∈ l → bulkD d ≤ bulkL l
  | x :: l, h => by
    simp only [bulkL]
    cases h with
    | head => omega
    | tail _ h => have := bulk_mem h; omega
end Go.Proofs.Ytbjckcenlfgcaaa.symtabW
