/- The shadow functions of codeE are the functions of the program. -/
import Derived.Test.YtbjckcenlfgcaabDoorProg
import Derived.Test.YtbjckcenlfgcaabDoorShFcode
import Derived.Test.YtbjckcenlfgcaabDoorShFisa
import Derived.Test.YtbjckcenlfgcaabDoorShFlaw0
import Derived.Test.YtbjckcenlfgcaabDoorShFlaw3
import Derived.Test.YtbjckcenlfgcaabDoorShFref2
import Derived.Test.YtbjckcenlfgcaabDoorShFref3
import Derived.Test.YtbjckcenlfgcaabDoorShFslices
import Derived.Test.YtbjckcenlfgcaabDoorShTabs
import Derived.Test.YtbjckcenlfgcaabDoorShBe
import Derived.KernelRfl
namespace Go.Proofs.YtbjckcenlfgcaabDoor.codeE
open Go.Sh
def fns : List (Nat × SFn) := [(135, F135_spindlelaw3_CodeEncodes), (71, F71_spindlelaw3_CodeBack), (74, F74_spindlelaw3_CodeForth), (69, F69_spindlelaw3_awake), (1, F1_spindlelaw3_Lend), (2, F2_spindlelaw3_Turned), (134, F134_spindleref3_Encode), (70, F70_code_Encode), (12, F12_spindlelaw0_Num), (73, F73_spindlelaw0_SameBytes), (4, F4_spindlelaw3_Back), (126, F126_spindlelaw0_Book_Own), (123, F123_spindlelaw0_Book_Holds), (72, F72_code_Decode), (9, F9_spindlelaw0_SameInsns), (7, F7_spindlelaw0_CopyInsns), (27, F27_isa_May), (0, F0_code_Slots), (35, F35_spindlelaw0_CopyBytes), (6, F6_spindlelaw3_behind), (65, F65_spindleref2_May), (136, F136_spindleref3_Bytes), (76, F76_code_laid), (130, F130_spindlelaw0_Book_write), (127, F127_spindlelaw0_Book_untouched), (128, F128_spindlelaw0_Book_same), (77, F77_code_first), (11, F11_isa_Info), (28, F28_isa_offs), (29, F29_isa_imms), (17, F17_spindleref2_Rows), (67, F67_spindleref2_fits), (137, F137_spindleref3_number), (8, F8_spindleref3_wide), (78, F78_code_put), (131, F131_spindlelaw0_marked), (133, F133_spindlelaw0_marked_own), (132, F132_spindlelaw0_Book_keep), (79, F79_code_take), (18, F18_isa_form), (22, F22_slices_Contains_int_int), (19, F19_spindleref2_arithmetic), (20, F20_spindleref2_jumps), (21, F21_spindleref2_moves), (23, F23_spindleref2_has), (68, F68_spindleref2_register), (24, F24_slices_Index_int_int)]
def pr : Prog := ⟨fun f => fns.lookup f, tabs⟩
def fnNo : List (Nat × Nat) := [(135, 3), (71, 5), (74, 6), (69, 9), (1, 10), (2, 11), (134, 12), (70, 13), (12, 14), (73, 15), (4, 16), (126, 17), (123, 18), (72, 22), (9, 23), (7, 26), (27, 27), (0, 28), (35, 29), (6, 36), (65, 37), (136, 38), (76, 39), (130, 40), (127, 41), (128, 42), (77, 45), (11, 31), (28, 49), (29, 50), (17, 55), (67, 56), (137, 57), (8, 58), (78, 59), (131, 60), (133, 60), (132, 61), (79, 63), (18, 51), (22, 67), (19, 70), (20, 71), (21, 72), (23, 73), (68, 74), (24, 75)]
def glNo : List (Nat × Nat) := [(0, 1), (1, 2), (2, 3), (3, 4), (4, 0)]
def tyNo : List (Nat × Nat) := []
def link : Link := ⟨fun t => (tyNo.lookup t).getD 0, fun f => (fnNo.lookup f).getD 0, fun g => (glNo.lookup g).getD 0⟩
theorem ok135 : okFn Tryd.prog pr link Tryd.f3 F135_spindlelaw3_CodeEncodes = true := by kernel_rfl
theorem ok71 : okFn Tryd.prog pr link Tryd.f5 F71_spindlelaw3_CodeBack = true := by kernel_rfl
theorem ok74 : okFn Tryd.prog pr link Tryd.f6 F74_spindlelaw3_CodeForth = true := by kernel_rfl
theorem ok69 : okFn Tryd.prog pr link Tryd.f9 F69_spindlelaw3_awake = true := by kernel_rfl
theorem ok1 : okFn Tryd.prog pr link Tryd.f10 F1_spindlelaw3_Lend = true := by kernel_rfl
theorem ok2 : okFn Tryd.prog pr link Tryd.f11 F2_spindlelaw3_Turned = true := by kernel_rfl
theorem ok134 : okFn Tryd.prog pr link Tryd.f12 F134_spindleref3_Encode = true := by kernel_rfl
theorem ok70 : okFn Tryd.prog pr link Tryd.f13 F70_code_Encode = true := by kernel_rfl
theorem ok12 : okFn Tryd.prog pr link Tryd.f14 F12_spindlelaw0_Num = true := by kernel_rfl
theorem ok73 : okFn Tryd.prog pr link Tryd.f15 F73_spindlelaw0_SameBytes = true := by kernel_rfl
theorem ok4 : okFn Tryd.prog pr link Tryd.f16 F4_spindlelaw3_Back = true := by kernel_rfl
theorem ok126 : okFn Tryd.prog pr link Tryd.f17 F126_spindlelaw0_Book_Own = true := by kernel_rfl
theorem ok123 : okFn Tryd.prog pr link Tryd.f18 F123_spindlelaw0_Book_Holds = true := by kernel_rfl
theorem ok72 : okFn Tryd.prog pr link Tryd.f22 F72_code_Decode = true := by kernel_rfl
theorem ok9 : okFn Tryd.prog pr link Tryd.f23 F9_spindlelaw0_SameInsns = true := by kernel_rfl
theorem ok7 : okFn Tryd.prog pr link Tryd.f26 F7_spindlelaw0_CopyInsns = true := by kernel_rfl
theorem ok27 : okFn Tryd.prog pr link Tryd.f27 F27_isa_May = true := by kernel_rfl
theorem ok0 : okFn Tryd.prog pr link Tryd.f28 F0_code_Slots = true := by kernel_rfl
theorem ok35 : okFn Tryd.prog pr link Tryd.f29 F35_spindlelaw0_CopyBytes = true := by kernel_rfl
theorem ok6 : okFn Tryd.prog pr link Tryd.f36 F6_spindlelaw3_behind = true := by kernel_rfl
theorem ok65 : okFn Tryd.prog pr link Tryd.f37 F65_spindleref2_May = true := by kernel_rfl
theorem ok136 : okFn Tryd.prog pr link Tryd.f38 F136_spindleref3_Bytes = true := by kernel_rfl
theorem ok76 : okFn Tryd.prog pr link Tryd.f39 F76_code_laid = true := by kernel_rfl
theorem ok130 : okFn Tryd.prog pr link Tryd.f40 F130_spindlelaw0_Book_write = true := by kernel_rfl
theorem ok127 : okFn Tryd.prog pr link Tryd.f41 F127_spindlelaw0_Book_untouched = true := by kernel_rfl
theorem ok128 : okFn Tryd.prog pr link Tryd.f42 F128_spindlelaw0_Book_same = true := by kernel_rfl
theorem ok77 : okFn Tryd.prog pr link Tryd.f45 F77_code_first = true := by kernel_rfl
theorem ok11 : okFn Tryd.prog pr link Tryd.f31 F11_isa_Info = true := by kernel_rfl
theorem ok28 : okFn Tryd.prog pr link Tryd.f49 F28_isa_offs = true := by kernel_rfl
theorem ok29 : okFn Tryd.prog pr link Tryd.f50 F29_isa_imms = true := by kernel_rfl
theorem ok17 : okFn Tryd.prog pr link Tryd.f55 F17_spindleref2_Rows = true := by kernel_rfl
theorem ok67 : okFn Tryd.prog pr link Tryd.f56 F67_spindleref2_fits = true := by kernel_rfl
theorem ok137 : okFn Tryd.prog pr link Tryd.f57 F137_spindleref3_number = true := by kernel_rfl
theorem ok8 : okFn Tryd.prog pr link Tryd.f58 F8_spindleref3_wide = true := by kernel_rfl
theorem ok78 : okFn Tryd.prog pr link Tryd.f59 F78_code_put = true := by kernel_rfl
theorem ok131 : okFn Tryd.prog pr link Tryd.f60 F131_spindlelaw0_marked = true := by kernel_rfl
theorem ok133 : okFn Tryd.prog pr link Tryd.f60 F133_spindlelaw0_marked_own = true := by kernel_rfl
theorem ok132 : okFn Tryd.prog pr link Tryd.f61 F132_spindlelaw0_Book_keep = true := by kernel_rfl
theorem ok79 : okFn Tryd.prog pr link Tryd.f63 F79_code_take = true := by kernel_rfl
theorem ok18 : okFn Tryd.prog pr link Tryd.f51 F18_isa_form = true := by kernel_rfl
theorem ok22 : okFn Tryd.prog pr link Tryd.f67 F22_slices_Contains_int_int = true := by kernel_rfl
theorem ok19 : okFn Tryd.prog pr link Tryd.f70 F19_spindleref2_arithmetic = true := by kernel_rfl
theorem ok20 : okFn Tryd.prog pr link Tryd.f71 F20_spindleref2_jumps = true := by kernel_rfl
theorem ok21 : okFn Tryd.prog pr link Tryd.f72 F21_spindleref2_moves = true := by kernel_rfl
theorem ok23 : okFn Tryd.prog pr link Tryd.f73 F23_spindleref2_has = true := by kernel_rfl
theorem ok68 : okFn Tryd.prog pr link Tryd.f74 F68_spindleref2_register = true := by kernel_rfl
theorem ok24 : okFn Tryd.prog pr link Tryd.f75 F24_slices_Index_int_int = true := by kernel_rfl
theorem tied : Tied Tryd.prog pr link := tied_of (fns := fns) (fun _ => rfl) fun x hx => by
  simp only [fns, List.mem_cons, List.not_mem_nil, or_false] at hx
  rcases hx with rfl | rfl | rfl | rfl | rfl | rfl | rfl | rfl | rfl | rfl | rfl | rfl | rfl | rfl | rfl | rfl | rfl | rfl | rfl | rfl | rfl | rfl | rfl | rfl | rfl | rfl | rfl | rfl | rfl | rfl | rfl | rfl | rfl | rfl | rfl | rfl | rfl | rfl | rfl | rfl | rfl | rfl | rfl | rfl | rfl | rfl | rfl
  · exact ⟨Tryd.f3, Tryd.func3, ok135⟩
  · exact ⟨Tryd.f5, Tryd.func5, ok71⟩
  · exact ⟨Tryd.f6, Tryd.func6, ok74⟩
  · exact ⟨Tryd.f9, Tryd.func9, ok69⟩
  · exact ⟨Tryd.f10, Tryd.func10, ok1⟩
  · exact ⟨Tryd.f11, Tryd.func11, ok2⟩
  · exact ⟨Tryd.f12, Tryd.func12, ok134⟩
  · exact ⟨Tryd.f13, Tryd.func13, ok70⟩
  · exact ⟨Tryd.f14, Tryd.func14, ok12⟩
  · exact ⟨Tryd.f15, Tryd.func15, ok73⟩
  · exact ⟨Tryd.f16, Tryd.func16, ok4⟩
  · exact ⟨Tryd.f17, Tryd.func17, ok126⟩
  · exact ⟨Tryd.f18, Tryd.func18, ok123⟩
  · exact ⟨Tryd.f22, Tryd.func22, ok72⟩
  · exact ⟨Tryd.f23, Tryd.func23, ok9⟩
  · exact ⟨Tryd.f26, Tryd.func26, ok7⟩
  · exact ⟨Tryd.f27, Tryd.func27, ok27⟩
  · exact ⟨Tryd.f28, Tryd.func28, ok0⟩
  · exact ⟨Tryd.f29, Tryd.func29, ok35⟩
  · exact ⟨Tryd.f36, Tryd.func36, ok6⟩
  · exact ⟨Tryd.f37, Tryd.func37, ok65⟩
  · exact ⟨Tryd.f38, Tryd.func38, ok136⟩
  · exact ⟨Tryd.f39, Tryd.func39, ok76⟩
  · exact ⟨Tryd.f40, Tryd.func40, ok130⟩
  · exact ⟨Tryd.f41, Tryd.func41, ok127⟩
  · exact ⟨Tryd.f42, Tryd.func42, ok128⟩
  · exact ⟨Tryd.f45, Tryd.func45, ok77⟩
  · exact ⟨Tryd.f31, Tryd.func31, ok11⟩
  · exact ⟨Tryd.f49, Tryd.func49, ok28⟩
  · exact ⟨Tryd.f50, Tryd.func50, ok29⟩
  · exact ⟨Tryd.f55, Tryd.func55, ok17⟩
  · exact ⟨Tryd.f56, Tryd.func56, ok67⟩
  · exact ⟨Tryd.f57, Tryd.func57, ok137⟩
  · exact ⟨Tryd.f58, Tryd.func58, ok8⟩
  · exact ⟨Tryd.f59, Tryd.func59, ok78⟩
  · exact ⟨Tryd.f60, Tryd.func60, ok131⟩
  · exact ⟨Tryd.f60, Tryd.func60, ok133⟩
  · exact ⟨Tryd.f61, Tryd.func61, ok132⟩
  · exact ⟨Tryd.f63, Tryd.func63, ok79⟩
  · exact ⟨Tryd.f51, Tryd.func51, ok18⟩
  · exact ⟨Tryd.f67, Tryd.func67, ok22⟩
  · exact ⟨Tryd.f70, Tryd.func70, ok19⟩
  · exact ⟨Tryd.f71, Tryd.func71, ok20⟩
  · exact ⟨Tryd.f72, Tryd.func72, ok21⟩
  · exact ⟨Tryd.f73, Tryd.func73, ok23⟩
  · exact ⟨Tryd.f74, Tryd.func74, ok68⟩
  · exact ⟨Tryd.f75, Tryd.func75, ok24⟩
theorem tie : Tie Tryd.prog pr link := ⟨by kernel_rfl, tied⟩
end Go.Proofs.YtbjckcenlfgcaabDoor.codeE
