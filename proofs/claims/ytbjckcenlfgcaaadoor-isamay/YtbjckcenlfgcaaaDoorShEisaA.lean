/- The opcodes' functions, run by the kernel at every opcode. -/
import Derived.Test.YtbjckcenlfgcaaaDoorShLisaMay
import Derived.Test.YtbjckcenlfgcaaaDoorShBe
import Derived.Test.YtbjckcenlfgcaaaDoorShTabs
import Derived.KernelRfl
set_option linter.unusedVariables false
namespace Go.Sh
def evFns : List (Nat × SFn) := [(18, F18_isa_form), (11, F11_isa_Info), (17, F17_spindleref2_Rows), (19, F19_spindleref2_arithmetic), (20, F20_spindleref2_jumps), (21, F21_spindleref2_moves), (23, F23_spindleref2_has), (22, F22_slices_Contains_int_int), (24, F24_slices_Index_int_int)]
def prIsa : Prog := progOf evFns tabs
theorem chk0 : (List.range' 0 32).all (chkOp prIsa) = true := by kernel_rfl
theorem chk1 : (List.range' 32 32).all (chkOp prIsa) = true := by kernel_rfl
theorem chk2 : (List.range' 64 32).all (chkOp prIsa) = true := by kernel_rfl
theorem chk3 : (List.range' 96 32).all (chkOp prIsa) = true := by kernel_rfl
end Go.Sh
