/- What IsaClass comes to at every opcode, run by the kernel. -/
import Derived.Test.YtgafhgbnjohbeabDoorShT3
import Derived.Test.YtgafhgbnjohbeabDoorSh29
set_option linter.unusedVariables false
namespace Go.Sh
open Go.Proofs.YtgafhgbnjohbeabDoor.isaClass
def chk (op : Nat) : Bool := runIs pr 40 26 [.i .i64 op] (.b true)
theorem chk0 : (List.range' 0 32).all chk = true := by kernel_rfl
theorem chk1 : (List.range' 32 32).all chk = true := by kernel_rfl
theorem chk2 : (List.range' 64 32).all chk = true := by kernel_rfl
theorem chk3 : (List.range' 96 32).all chk = true := by kernel_rfl
theorem chk4 : (List.range' 128 32).all chk = true := by kernel_rfl
theorem chk5 : (List.range' 160 32).all chk = true := by kernel_rfl
theorem chk6 : (List.range' 192 32).all chk = true := by kernel_rfl
theorem chk7 : (List.range' 224 32).all chk = true := by kernel_rfl

theorem chk_all : ∀ op : Nat, op < 256 → chk op = true := by
  intro op hop
  have h : ∀ k, (List.range' (32 * k) 32).all chk = true → 32 * k ≤ op → op < 32 * k + 32 → chk op = true := fun k h h1 h2 => List.all_eq_true.1 h op (by rw [List.mem_range']; exact ⟨op - 32 * k, by omega, by omega⟩)
  rcases (by omega : op / 32 = 0 ∨ op / 32 = 1 ∨ op / 32 = 2 ∨ op / 32 = 3 ∨ op / 32 = 4 ∨ op / 32 = 5 ∨ op / 32 = 6 ∨ op / 32 = 7) with h0 | h0 | h0 | h0 | h0 | h0 | h0 | h0
  · exact h 0 chk0 (by omega) (by omega)
  · exact h 1 chk1 (by omega) (by omega)
  · exact h 2 chk2 (by omega) (by omega)
  · exact h 3 chk3 (by omega) (by omega)
  · exact h 4 chk4 (by omega) (by omega)
  · exact h 5 chk5 (by omega) (by omega)
  · exact h 6 chk6 (by omega) (by omega)
  · exact h 7 chk7 (by omega) (by omega)
theorem awake_run : runIs pr 40 25 [] (.b true) = true := by kernel_rfl
end Go.Sh
