/- The shadow functions of code are the functions of the program. -/
import Derived.Test.YtbjckcenlfgcaabDoorProg
import Derived.Test.YtbjckcenlfgcaabDoorShFcode
import Derived.Test.YtbjckcenlfgcaabDoorShFisa
import Derived.Test.YtbjckcenlfgcaabDoorShFlaw0
import Derived.Test.YtbjckcenlfgcaabDoorShFlaw3
import Derived.Test.YtbjckcenlfgcaabDoorShFslices
import Derived.Test.YtbjckcenlfgcaabDoorShTabs
import Derived.Test.YtbjckcenlfgcaabDoorShBe
import Derived.KernelRfl
namespace Go.Proofs.YtbjckcenlfgcaabDoor.code
open Go.Sh
def fns : List (Nat × SFn) := [(71, F71_spindlelaw3_CodeBack), (74, F74_spindlelaw3_CodeForth), (75, F75_spindlelaw3_CodeJoins), (69, F69_spindlelaw3_awake), (70, F70_code_Encode), (12, F12_spindlelaw0_Num), (72, F72_code_Decode), (9, F9_spindlelaw0_SameInsns), (7, F7_spindlelaw0_CopyInsns), (27, F27_isa_May), (0, F0_code_Slots), (73, F73_spindlelaw0_SameBytes), (35, F35_spindlelaw0_CopyBytes), (80, F80_spindlelaw0_CopyInsns_own), (81, F81_spindlelaw0_CopyBytes_own), (76, F76_code_laid), (77, F77_code_first), (11, F11_isa_Info), (28, F28_isa_offs), (29, F29_isa_imms), (78, F78_code_put), (79, F79_code_take), (18, F18_isa_form), (22, F22_slices_Contains_int_int), (24, F24_slices_Index_int_int)]
def pr : Prog := ⟨fun f => fns.lookup f, tabs⟩
def fnNo : List (Nat × Nat) := [(71, 5), (74, 6), (75, 7), (69, 9), (70, 13), (12, 14), (72, 22), (9, 23), (7, 26), (27, 27), (0, 28), (73, 15), (35, 29), (80, 26), (81, 29), (76, 39), (77, 45), (11, 31), (28, 49), (29, 50), (78, 59), (79, 63), (18, 51), (22, 67), (24, 75)]
def glNo : List (Nat × Nat) := [(0, 1), (1, 2), (2, 3), (3, 4), (4, 0)]
def tyNo : List (Nat × Nat) := []
def link : Link := ⟨fun t => (tyNo.lookup t).getD 0, fun f => (fnNo.lookup f).getD 0, fun g => (glNo.lookup g).getD 0⟩
theorem ok71 : okFn Tryd.prog pr link Tryd.f5 F71_spindlelaw3_CodeBack = true := by kernel_rfl
theorem ok74 : okFn Tryd.prog pr link Tryd.f6 F74_spindlelaw3_CodeForth = true := by kernel_rfl
theorem ok75 : okFn Tryd.prog pr link Tryd.f7 F75_spindlelaw3_CodeJoins = true := by kernel_rfl
theorem ok69 : okFn Tryd.prog pr link Tryd.f9 F69_spindlelaw3_awake = true := by kernel_rfl
theorem ok70 : okFn Tryd.prog pr link Tryd.f13 F70_code_Encode = true := by kernel_rfl
theorem ok12 : okFn Tryd.prog pr link Tryd.f14 F12_spindlelaw0_Num = true := by kernel_rfl
theorem ok72 : okFn Tryd.prog pr link Tryd.f22 F72_code_Decode = true := by kernel_rfl
theorem ok9 : okFn Tryd.prog pr link Tryd.f23 F9_spindlelaw0_SameInsns = true := by kernel_rfl
theorem ok7 : okFn Tryd.prog pr link Tryd.f26 F7_spindlelaw0_CopyInsns = true := by kernel_rfl
theorem ok27 : okFn Tryd.prog pr link Tryd.f27 F27_isa_May = true := by kernel_rfl
theorem ok0 : okFn Tryd.prog pr link Tryd.f28 F0_code_Slots = true := by kernel_rfl
theorem ok73 : okFn Tryd.prog pr link Tryd.f15 F73_spindlelaw0_SameBytes = true := by kernel_rfl
theorem ok35 : okFn Tryd.prog pr link Tryd.f29 F35_spindlelaw0_CopyBytes = true := by kernel_rfl
theorem ok80 : okFn Tryd.prog pr link Tryd.f26 F80_spindlelaw0_CopyInsns_own = true := by kernel_rfl
theorem ok81 : okFn Tryd.prog pr link Tryd.f29 F81_spindlelaw0_CopyBytes_own = true := by kernel_rfl
theorem ok76 : okFn Tryd.prog pr link Tryd.f39 F76_code_laid = true := by kernel_rfl
theorem ok77 : okFn Tryd.prog pr link Tryd.f45 F77_code_first = true := by kernel_rfl
theorem ok11 : okFn Tryd.prog pr link Tryd.f31 F11_isa_Info = true := by kernel_rfl
theorem ok28 : okFn Tryd.prog pr link Tryd.f49 F28_isa_offs = true := by kernel_rfl
theorem ok29 : okFn Tryd.prog pr link Tryd.f50 F29_isa_imms = true := by kernel_rfl
theorem ok78 : okFn Tryd.prog pr link Tryd.f59 F78_code_put = true := by kernel_rfl
theorem ok79 : okFn Tryd.prog pr link Tryd.f63 F79_code_take = true := by kernel_rfl
theorem ok18 : okFn Tryd.prog pr link Tryd.f51 F18_isa_form = true := by kernel_rfl
theorem ok22 : okFn Tryd.prog pr link Tryd.f67 F22_slices_Contains_int_int = true := by kernel_rfl
theorem ok24 : okFn Tryd.prog pr link Tryd.f75 F24_slices_Index_int_int = true := by kernel_rfl
theorem tied : Tied Tryd.prog pr link := tied_of (fns := fns) (fun _ => rfl) fun x hx => by
  simp only [fns, List.mem_cons, List.not_mem_nil, or_false] at hx
  rcases hx with rfl | rfl | rfl | rfl | rfl | rfl | rfl | rfl | rfl | rfl | rfl | rfl | rfl | rfl | rfl | rfl | rfl | rfl | rfl | rfl | rfl | rfl | rfl | rfl | rfl
  · exact ⟨Tryd.f5, Tryd.func5, ok71⟩
  · exact ⟨Tryd.f6, Tryd.func6, ok74⟩
  · exact ⟨Tryd.f7, Tryd.func7, ok75⟩
  · exact ⟨Tryd.f9, Tryd.func9, ok69⟩
  · exact ⟨Tryd.f13, Tryd.func13, ok70⟩
  · exact ⟨Tryd.f14, Tryd.func14, ok12⟩
  · exact ⟨Tryd.f22, Tryd.func22, ok72⟩
  · exact ⟨Tryd.f23, Tryd.func23, ok9⟩
  · exact ⟨Tryd.f26, Tryd.func26, ok7⟩
  · exact ⟨Tryd.f27, Tryd.func27, ok27⟩
  · exact ⟨Tryd.f28, Tryd.func28, ok0⟩
  · exact ⟨Tryd.f15, Tryd.func15, ok73⟩
  · exact ⟨Tryd.f29, Tryd.func29, ok35⟩
  · exact ⟨Tryd.f26, Tryd.func26, ok80⟩
  · exact ⟨Tryd.f29, Tryd.func29, ok81⟩
  · exact ⟨Tryd.f39, Tryd.func39, ok76⟩
  · exact ⟨Tryd.f45, Tryd.func45, ok77⟩
  · exact ⟨Tryd.f31, Tryd.func31, ok11⟩
  · exact ⟨Tryd.f49, Tryd.func49, ok28⟩
  · exact ⟨Tryd.f50, Tryd.func50, ok29⟩
  · exact ⟨Tryd.f59, Tryd.func59, ok78⟩
  · exact ⟨Tryd.f63, Tryd.func63, ok79⟩
  · exact ⟨Tryd.f51, Tryd.func51, ok18⟩
  · exact ⟨Tryd.f67, Tryd.func67, ok22⟩
  · exact ⟨Tryd.f75, Tryd.func75, ok24⟩
theorem tie : Tie Tryd.prog pr link := ⟨by kernel_rfl, tied⟩
end Go.Proofs.YtbjckcenlfgcaabDoor.code
