/- The opcodes' functions, run by the kernel at every opcode. -/
import Derived.Test.YtbjckcenlfgcaaaDoorShLisaMay
import Derived.Test.YtbjckcenlfgcaaaDoorShBe
import Derived.Test.YtbjckcenlfgcaaaDoorShTabs
import Derived.KernelRfl
set_option linter.unusedVariables false
namespace Go.Sh
def evFnsB : List (Nat × SFn) := [(18, F18_isa_form), (11, F11_isa_Info), (17, F17_spindleref2_Rows), (19, F19_spindleref2_arithmetic), (20, F20_spindleref2_jumps), (21, F21_spindleref2_moves), (23, F23_spindleref2_has), (22, F22_slices_Contains_int_int), (24, F24_slices_Index_int_int)]
def prIsaB : Prog := progOf evFnsB tabs
theorem chk4 : (List.range' 128 32).all (chkOp prIsaB) = true := by kernel_rfl
theorem chk5 : (List.range' 160 32).all (chkOp prIsaB) = true := by kernel_rfl
theorem chk6 : (List.range' 192 32).all (chkOp prIsaB) = true := by kernel_rfl
theorem chk7 : (List.range' 224 32).all (chkOp prIsaB) = true := by kernel_rfl
end Go.Sh
