/- The shadow functions of symtabW are the functions of the program. -/
import Derived.Test.YtbjckcenlfgcaaaProg
import Derived.Test.YtbjckcenlfgcaaaShFlaw0
import Derived.Test.YtbjckcenlfgcaaaShFlaw10
import Derived.Test.YtbjckcenlfgcaaaShFref10
import Derived.Test.YtbjckcenlfgcaaaShFsymtab
import Derived.Test.YtbjckcenlfgcaaaShBe
import Derived.KernelRfl
namespace Go.Proofs.Ytbjckcenlfgcaaa.symtabW
open Go.Sh
def fns : List (Nat × SFn) := [(122, F122_spindlelaw10_SymtabWrites), (30, F30_spindlelaw10_awake), (120, F120_spindlelaw10_writes), (121, F121_spindlelaw10_turned), (123, F123_spindlelaw0_Book_Holds), (31, F31_symtab_Write), (12, F12_spindlelaw0_Num), (32, F32_symtab_Read), (124, F124_spindlelaw10_Desk_Lend), (41, F41_spindleref10_Write), (125, F125_spindlelaw10_Desk_Back), (126, F126_spindlelaw0_Book_Own), (127, F127_spindlelaw0_Book_untouched), (128, F128_spindlelaw0_Book_same), (44, F44_symtab_sortOf), (54, F54_symtab_order_next), (55, F55_symtab_put), (56, F56_symtab_function_info), (45, F45_symtab_function_section), (51, F51_symtab_function_size), (48, F48_symtab_function_value), (57, F57_symtab_table_info), (46, F46_symtab_table_section), (52, F52_symtab_table_size), (49, F49_symtab_table_value), (58, F58_symtab_extern_info), (47, F47_symtab_extern_section), (53, F53_symtab_extern_size), (50, F50_symtab_extern_value), (59, F59_symtab_entry), (129, F129_spindlelaw10_behind), (38, F38_spindleref10_Sort), (39, F39_spindleref10_follows), (40, F40_spindleref10_number), (35, F35_spindlelaw0_CopyBytes), (130, F130_spindlelaw0_Book_write), (61, F61_symtab_function_rank), (62, F62_symtab_table_rank), (63, F63_symtab_extern_rank), (64, F64_symtab_get), (131, F131_spindlelaw0_marked), (133, F133_spindlelaw0_marked_own), (132, F132_spindlelaw0_Book_keep)]
def pr : Prog := ⟨fun f => fns.lookup f, fun _ => none⟩
def fnNo : List (Nat × Nat) := [(122, 3), (30, 8), (120, 9), (121, 10), (123, 11), (31, 15), (12, 16), (32, 17), (124, 19), (41, 20), (125, 21), (126, 22), (127, 23), (128, 24), (44, 31), (54, 32), (55, 33), (56, 65), (45, 67), (51, 68), (48, 69), (57, 70), (46, 72), (52, 73), (49, 74), (58, 75), (47, 77), (53, 78), (50, 79), (59, 34), (129, 35), (38, 36), (39, 37), (40, 38), (35, 12), (130, 39), (61, 66), (62, 71), (63, 76), (64, 43), (131, 44), (133, 44), (132, 45)]
def glNo : List (Nat × Nat) := []
def tyNo : List (Nat × Nat) := [(0, 83), (1, 85), (2, 86)]
def link : Link := ⟨fun t => (tyNo.lookup t).getD 0, fun f => (fnNo.lookup f).getD 0, fun g => (glNo.lookup g).getD 0⟩
theorem ok122 : okFn Try.prog pr link Try.f3 F122_spindlelaw10_SymtabWrites = true := by kernel_rfl
theorem ok30 : okFn Try.prog pr link Try.f8 F30_spindlelaw10_awake = true := by kernel_rfl
theorem ok120 : okFn Try.prog pr link Try.f9 F120_spindlelaw10_writes = true := by kernel_rfl
theorem ok121 : okFn Try.prog pr link Try.f10 F121_spindlelaw10_turned = true := by kernel_rfl
theorem ok123 : okFn Try.prog pr link Try.f11 F123_spindlelaw0_Book_Holds = true := by kernel_rfl
theorem ok31 : okFn Try.prog pr link Try.f15 F31_symtab_Write = true := by kernel_rfl
theorem ok12 : okFn Try.prog pr link Try.f16 F12_spindlelaw0_Num = true := by kernel_rfl
theorem ok32 : okFn Try.prog pr link Try.f17 F32_symtab_Read = true := by kernel_rfl
theorem ok124 : okFn Try.prog pr link Try.f19 F124_spindlelaw10_Desk_Lend = true := by kernel_rfl
theorem ok41 : okFn Try.prog pr link Try.f20 F41_spindleref10_Write = true := by kernel_rfl
theorem ok125 : okFn Try.prog pr link Try.f21 F125_spindlelaw10_Desk_Back = true := by kernel_rfl
theorem ok126 : okFn Try.prog pr link Try.f22 F126_spindlelaw0_Book_Own = true := by kernel_rfl
theorem ok127 : okFn Try.prog pr link Try.f23 F127_spindlelaw0_Book_untouched = true := by kernel_rfl
theorem ok128 : okFn Try.prog pr link Try.f24 F128_spindlelaw0_Book_same = true := by kernel_rfl
theorem ok44 : okFn Try.prog pr link Try.f31 F44_symtab_sortOf = true := by kernel_rfl
theorem ok54 : okFn Try.prog pr link Try.f32 F54_symtab_order_next = true := by kernel_rfl
theorem ok55 : okFn Try.prog pr link Try.f33 F55_symtab_put = true := by kernel_rfl
theorem ok56 : okFn Try.prog pr link Try.f65 F56_symtab_function_info = true := by kernel_rfl
theorem ok45 : okFn Try.prog pr link Try.f67 F45_symtab_function_section = true := by kernel_rfl
theorem ok51 : okFn Try.prog pr link Try.f68 F51_symtab_function_size = true := by kernel_rfl
theorem ok48 : okFn Try.prog pr link Try.f69 F48_symtab_function_value = true := by kernel_rfl
theorem ok57 : okFn Try.prog pr link Try.f70 F57_symtab_table_info = true := by kernel_rfl
theorem ok46 : okFn Try.prog pr link Try.f72 F46_symtab_table_section = true := by kernel_rfl
theorem ok52 : okFn Try.prog pr link Try.f73 F52_symtab_table_size = true := by kernel_rfl
theorem ok49 : okFn Try.prog pr link Try.f74 F49_symtab_table_value = true := by kernel_rfl
theorem ok58 : okFn Try.prog pr link Try.f75 F58_symtab_extern_info = true := by kernel_rfl
theorem ok47 : okFn Try.prog pr link Try.f77 F47_symtab_extern_section = true := by kernel_rfl
theorem ok53 : okFn Try.prog pr link Try.f78 F53_symtab_extern_size = true := by kernel_rfl
theorem ok50 : okFn Try.prog pr link Try.f79 F50_symtab_extern_value = true := by kernel_rfl
theorem ok59 : okFn Try.prog pr link Try.f34 F59_symtab_entry = true := by kernel_rfl
theorem ok129 : okFn Try.prog pr link Try.f35 F129_spindlelaw10_behind = true := by kernel_rfl
theorem ok38 : okFn Try.prog pr link Try.f36 F38_spindleref10_Sort = true := by kernel_rfl
theorem ok39 : okFn Try.prog pr link Try.f37 F39_spindleref10_follows = true := by kernel_rfl
theorem ok40 : okFn Try.prog pr link Try.f38 F40_spindleref10_number = true := by kernel_rfl
theorem ok35 : okFn Try.prog pr link Try.f12 F35_spindlelaw0_CopyBytes = true := by kernel_rfl
theorem ok130 : okFn Try.prog pr link Try.f39 F130_spindlelaw0_Book_write = true := by kernel_rfl
theorem ok61 : okFn Try.prog pr link Try.f66 F61_symtab_function_rank = true := by kernel_rfl
theorem ok62 : okFn Try.prog pr link Try.f71 F62_symtab_table_rank = true := by kernel_rfl
theorem ok63 : okFn Try.prog pr link Try.f76 F63_symtab_extern_rank = true := by kernel_rfl
theorem ok64 : okFn Try.prog pr link Try.f43 F64_symtab_get = true := by kernel_rfl
theorem ok131 : okFn Try.prog pr link Try.f44 F131_spindlelaw0_marked = true := by kernel_rfl
theorem ok133 : okFn Try.prog pr link Try.f44 F133_spindlelaw0_marked_own = true := by kernel_rfl
theorem ok132 : okFn Try.prog pr link Try.f45 F132_spindlelaw0_Book_keep = true := by kernel_rfl
theorem tied : Tied Try.prog pr link := tied_of (fns := fns) (fun _ => rfl) fun x hx => by
  simp only [fns, List.mem_cons, List.not_mem_nil, or_false] at hx
  rcases hx with rfl | rfl | rfl | rfl | rfl | rfl | rfl | rfl | rfl | rfl | rfl | rfl | rfl | rfl | rfl | rfl | rfl | rfl | rfl | rfl | rfl | rfl | rfl | rfl | rfl | rfl | rfl | rfl | rfl | rfl | rfl | rfl | rfl | rfl | rfl | rfl | rfl | rfl | rfl | rfl | rfl | rfl | rfl
  · exact ⟨Try.f3, Try.func3, ok122⟩
  · exact ⟨Try.f8, Try.func8, ok30⟩
  · exact ⟨Try.f9, Try.func9, ok120⟩
  · exact ⟨Try.f10, Try.func10, ok121⟩
  · exact ⟨Try.f11, Try.func11, ok123⟩
  · exact ⟨Try.f15, Try.func15, ok31⟩
  · exact ⟨Try.f16, Try.func16, ok12⟩
  · exact ⟨Try.f17, Try.func17, ok32⟩
  · exact ⟨Try.f19, Try.func19, ok124⟩
  · exact ⟨Try.f20, Try.func20, ok41⟩
  · exact ⟨Try.f21, Try.func21, ok125⟩
  · exact ⟨Try.f22, Try.func22, ok126⟩
  · exact ⟨Try.f23, Try.func23, ok127⟩
  · exact ⟨Try.f24, Try.func24, ok128⟩
  · exact ⟨Try.f31, Try.func31, ok44⟩
  · exact ⟨Try.f32, Try.func32, ok54⟩
  · exact ⟨Try.f33, Try.func33, ok55⟩
  · exact ⟨Try.f65, Try.func65, ok56⟩
  · exact ⟨Try.f67, Try.func67, ok45⟩
  · exact ⟨Try.f68, Try.func68, ok51⟩
  · exact ⟨Try.f69, Try.func69, ok48⟩
  · exact ⟨Try.f70, Try.func70, ok57⟩
  · exact ⟨Try.f72, Try.func72, ok46⟩
  · exact ⟨Try.f73, Try.func73, ok52⟩
  · exact ⟨Try.f74, Try.func74, ok49⟩
  · exact ⟨Try.f75, Try.func75, ok58⟩
  · exact ⟨Try.f77, Try.func77, ok47⟩
  · exact ⟨Try.f78, Try.func78, ok53⟩
  · exact ⟨Try.f79, Try.func79, ok50⟩
  · exact ⟨Try.f34, Try.func34, ok59⟩
  · exact ⟨Try.f35, Try.func35, ok129⟩
  · exact ⟨Try.f36, Try.func36, ok38⟩
  · exact ⟨Try.f37, Try.func37, ok39⟩
  · exact ⟨Try.f38, Try.func38, ok40⟩
  · exact ⟨Try.f12, Try.func12, ok35⟩
  · exact ⟨Try.f39, Try.func39, ok130⟩
  · exact ⟨Try.f66, Try.func66, ok61⟩
  · exact ⟨Try.f71, Try.func71, ok62⟩
  · exact ⟨Try.f76, Try.func76, ok63⟩
  · exact ⟨Try.f43, Try.func43, ok64⟩
  · exact ⟨Try.f44, Try.func44, ok131⟩
  · exact ⟨Try.f44, Try.func44, ok133⟩
  · exact ⟨Try.f45, Try.func45, ok132⟩
theorem tie : Tie Try.prog pr link := ⟨by kernel_rfl, tied⟩
end Go.Proofs.Ytbjckcenlfgcaaa.symtabW
