/- What the opcodes' functions come to at every opcode, run by the kernel. -/
import Derived.Test.YtgafhgbnjohbeaaDoorShT2
import Derived.Test.YtgafhgbnjohbeaaDoorSh29
set_option linter.unusedVariables false
namespace Go.Sh
open Go.Proofs.YtgafhgbnjohbeaaDoor.isaInfo
/-- The opcodes. -/
def opsL : List Nat := [4,5,6,7,12,15,20,21,22,23,24,28,29,30,31,36,37,38,39,44,45,46,47,52,53,54,55,60,61,62,63,68,69,70,71,76,77,78,79,84,85,86,87,92,93,94,95,97,98,99,100,101,102,103,105,106,107,108,109,110,111,113,114,115,116,117,118,119,121,122,123,124,125,126,127,129,132,133,135,137,145,148,149,151,156,159,164,165,166,167,172,173,174,175,180,181,182,183,188,189,190,191,195,196,197,198,199,204,205,206,207,212,213,214,215,219,220,221,222]
def opsD : List D := opsL.map fun n : Nat => .i .i64 n
/-- The program's Info and the document's, at one opcode. -/
def chk (op : Nat) : Bool := match runF pr 30 10 [.d (.i .i64 op)] st0, runF pr 30 11 [.d (.i .i64 op)] st0 with
  | some (.tup [.agg [.d a1, .d a2, .d a3, .d a4, .d a5, .d a6], .d (.i .i64 e)], _), some (.tup [.agg [.d b1, .d b2, .d b3, .d b4, .d b5, .d b6], .d (.i .i64 f)], _) =>
    decide (eqDs [0, 0, 1, 1, 1, 1] [b1, b2, b3, b4, b5, b6] [a1, a2, a3, a4, a5, a6] = some true) && (decide (e = f) && (decide (f = 0) == opsL.contains op))
  | _, _ => false
theorem chk0 : (List.range' 0 32).all chk = true := by kernel_rfl
theorem chk1 : (List.range' 32 32).all chk = true := by kernel_rfl
theorem chk2 : (List.range' 64 32).all chk = true := by kernel_rfl
theorem chk3 : (List.range' 96 32).all chk = true := by kernel_rfl
theorem chk4 : (List.range' 128 32).all chk = true := by kernel_rfl
theorem chk5 : (List.range' 160 32).all chk = true := by kernel_rfl
theorem chk6 : (List.range' 192 32).all chk = true := by kernel_rfl
theorem chk7 : (List.range' 224 32).all chk = true := by kernel_rfl

theorem chk_all : ∀ op : Nat, op < 256 → chk op = true := by
  intro op hop
  have h : ∀ k, (List.range' (32 * k) 32).all chk = true → 32 * k ≤ op → op < 32 * k + 32 → chk op = true := fun k h h1 h2 => List.all_eq_true.1 h op (by rw [List.mem_range']; exact ⟨op - 32 * k, by omega, by omega⟩)
  have : op / 32 < 8 := by omega
  rcases (by omega : op / 32 = 0 ∨ op / 32 = 1 ∨ op / 32 = 2 ∨ op / 32 = 3 ∨ op / 32 = 4 ∨ op / 32 = 5 ∨ op / 32 = 6 ∨ op / 32 = 7) with h0 | h0 | h0 | h0 | h0 | h0 | h0 | h0
  · exact h 0 chk0 (by omega) (by omega)
  · exact h 1 chk1 (by omega) (by omega)
  · exact h 2 chk2 (by omega) (by omega)
  · exact h 3 chk3 (by omega) (by omega)
  · exact h 4 chk4 (by omega) (by omega)
  · exact h 5 chk5 (by omega) (by omega)
  · exact h 6 chk6 (by omega) (by omega)
  · exact h 7 chk7 (by omega) (by omega)
theorem ops_run : runIs pr 260 14 [] (.sl 119 true opsD) = true := by kernel_rfl
theorem refOps_run : runIs pr 260 15 [] (.sl 119 true opsD) = true := by kernel_rfl
end Go.Sh
