/- The shadow functions of symtab are the functions of the program. -/
import Derived.Test.YtbjckcenlfgcaaaProg
import Derived.Test.YtbjckcenlfgcaaaShFlaw0
import Derived.Test.YtbjckcenlfgcaaaShFlaw10
import Derived.Test.YtbjckcenlfgcaaaShFref10
import Derived.Test.YtbjckcenlfgcaaaShFsymtab
import Derived.Test.YtbjckcenlfgcaaaShBe
import Derived.KernelRfl
namespace Go.Proofs.Ytbjckcenlfgcaaa.symtab
open Go.Sh
def fns : List (Nat × SFn) := [(34, F34_spindlelaw10_SymtabBack), (36, F36_spindlelaw10_SymtabBegins), (37, F37_spindlelaw10_SymtabOne), (41, F41_spindleref10_Write), (42, F42_spindleref10_Read), (30, F30_spindlelaw10_awake), (31, F31_symtab_Write), (12, F12_spindlelaw0_Num), (32, F32_symtab_Read), (33, F33_spindlelaw10_sameSymbols), (35, F35_spindlelaw0_CopyBytes), (38, F38_spindleref10_Sort), (39, F39_spindleref10_follows), (40, F40_spindleref10_number), (43, F43_spindleref10_entry), (44, F44_symtab_sortOf), (54, F54_symtab_order_next), (55, F55_symtab_put), (56, F56_symtab_function_info), (45, F45_symtab_function_section), (51, F51_symtab_function_size), (48, F48_symtab_function_value), (57, F57_symtab_table_info), (46, F46_symtab_table_section), (52, F52_symtab_table_size), (49, F49_symtab_table_value), (58, F58_symtab_extern_info), (47, F47_symtab_extern_section), (53, F53_symtab_extern_size), (50, F50_symtab_extern_value), (59, F59_symtab_entry), (60, F60_spindleref10_told), (61, F61_symtab_function_rank), (62, F62_symtab_table_rank), (63, F63_symtab_extern_rank), (64, F64_symtab_get)]
def pr : Prog := ⟨fun f => fns.lookup f, fun _ => none⟩
def fnNo : List (Nat × Nat) := [(34, 5), (36, 7), (37, 6), (41, 20), (42, 25), (30, 8), (31, 15), (12, 16), (32, 17), (33, 18), (35, 12), (38, 36), (39, 37), (40, 38), (43, 40), (44, 31), (54, 32), (55, 33), (56, 65), (45, 67), (51, 68), (48, 69), (57, 70), (46, 72), (52, 73), (49, 74), (58, 75), (47, 77), (53, 78), (50, 79), (59, 34), (60, 46), (61, 66), (62, 71), (63, 76), (64, 43)]
def glNo : List (Nat × Nat) := []
def tyNo : List (Nat × Nat) := [(0, 83), (1, 85), (2, 86)]
def link : Link := ⟨fun t => (tyNo.lookup t).getD 0, fun f => (fnNo.lookup f).getD 0, fun g => (glNo.lookup g).getD 0⟩
theorem ok34 : okFn Try.prog pr link Try.f5 F34_spindlelaw10_SymtabBack = true := by kernel_rfl
theorem ok36 : okFn Try.prog pr link Try.f7 F36_spindlelaw10_SymtabBegins = true := by kernel_rfl
theorem ok37 : okFn Try.prog pr link Try.f6 F37_spindlelaw10_SymtabOne = true := by kernel_rfl
theorem ok41 : okFn Try.prog pr link Try.f20 F41_spindleref10_Write = true := by kernel_rfl
theorem ok42 : okFn Try.prog pr link Try.f25 F42_spindleref10_Read = true := by kernel_rfl
theorem ok30 : okFn Try.prog pr link Try.f8 F30_spindlelaw10_awake = true := by kernel_rfl
theorem ok31 : okFn Try.prog pr link Try.f15 F31_symtab_Write = true := by kernel_rfl
theorem ok12 : okFn Try.prog pr link Try.f16 F12_spindlelaw0_Num = true := by kernel_rfl
theorem ok32 : okFn Try.prog pr link Try.f17 F32_symtab_Read = true := by kernel_rfl
theorem ok33 : okFn Try.prog pr link Try.f18 F33_spindlelaw10_sameSymbols = true := by kernel_rfl
theorem ok35 : okFn Try.prog pr link Try.f12 F35_spindlelaw0_CopyBytes = true := by kernel_rfl
theorem ok38 : okFn Try.prog pr link Try.f36 F38_spindleref10_Sort = true := by kernel_rfl
theorem ok39 : okFn Try.prog pr link Try.f37 F39_spindleref10_follows = true := by kernel_rfl
theorem ok40 : okFn Try.prog pr link Try.f38 F40_spindleref10_number = true := by kernel_rfl
theorem ok43 : okFn Try.prog pr link Try.f40 F43_spindleref10_entry = true := by kernel_rfl
theorem ok44 : okFn Try.prog pr link Try.f31 F44_symtab_sortOf = true := by kernel_rfl
theorem ok54 : okFn Try.prog pr link Try.f32 F54_symtab_order_next = true := by kernel_rfl
theorem ok55 : okFn Try.prog pr link Try.f33 F55_symtab_put = true := by kernel_rfl
theorem ok56 : okFn Try.prog pr link Try.f65 F56_symtab_function_info = true := by kernel_rfl
theorem ok45 : okFn Try.prog pr link Try.f67 F45_symtab_function_section = true := by kernel_rfl
theorem ok51 : okFn Try.prog pr link Try.f68 F51_symtab_function_size = true := by kernel_rfl
theorem ok48 : okFn Try.prog pr link Try.f69 F48_symtab_function_value = true := by kernel_rfl
theorem ok57 : okFn Try.prog pr link Try.f70 F57_symtab_table_info = true := by kernel_rfl
theorem ok46 : okFn Try.prog pr link Try.f72 F46_symtab_table_section = true := by kernel_rfl
theorem ok52 : okFn Try.prog pr link Try.f73 F52_symtab_table_size = true := by kernel_rfl
theorem ok49 : okFn Try.prog pr link Try.f74 F49_symtab_table_value = true := by kernel_rfl
theorem ok58 : okFn Try.prog pr link Try.f75 F58_symtab_extern_info = true := by kernel_rfl
theorem ok47 : okFn Try.prog pr link Try.f77 F47_symtab_extern_section = true := by kernel_rfl
theorem ok53 : okFn Try.prog pr link Try.f78 F53_symtab_extern_size = true := by kernel_rfl
theorem ok50 : okFn Try.prog pr link Try.f79 F50_symtab_extern_value = true := by kernel_rfl
theorem ok59 : okFn Try.prog pr link Try.f34 F59_symtab_entry = true := by kernel_rfl
theorem ok60 : okFn Try.prog pr link Try.f46 F60_spindleref10_told = true := by kernel_rfl
theorem ok61 : okFn Try.prog pr link Try.f66 F61_symtab_function_rank = true := by kernel_rfl
theorem ok62 : okFn Try.prog pr link Try.f71 F62_symtab_table_rank = true := by kernel_rfl
theorem ok63 : okFn Try.prog pr link Try.f76 F63_symtab_extern_rank = true := by kernel_rfl
theorem ok64 : okFn Try.prog pr link Try.f43 F64_symtab_get = true := by kernel_rfl
theorem tied : Tied Try.prog pr link := tied_of (fns := fns) (fun _ => rfl) fun x hx => by
  simp only [fns, List.mem_cons, List.not_mem_nil, or_false] at hx
  rcases hx with rfl | rfl | rfl | rfl | rfl | rfl | rfl | rfl | rfl | rfl | rfl | rfl | rfl | rfl | rfl | rfl | rfl | rfl | rfl | rfl | rfl | rfl | rfl | rfl | rfl | rfl | rfl | rfl | rfl | rfl | rfl | rfl | rfl | rfl | rfl | rfl
  · exact ⟨Try.f5, Try.func5, ok34⟩
  · exact ⟨Try.f7, Try.func7, ok36⟩
  · exact ⟨Try.f6, Try.func6, ok37⟩
  · exact ⟨Try.f20, Try.func20, ok41⟩
  · exact ⟨Try.f25, Try.func25, ok42⟩
  · exact ⟨Try.f8, Try.func8, ok30⟩
  · exact ⟨Try.f15, Try.func15, ok31⟩
  · exact ⟨Try.f16, Try.func16, ok12⟩
  · exact ⟨Try.f17, Try.func17, ok32⟩
  · exact ⟨Try.f18, Try.func18, ok33⟩
  · exact ⟨Try.f12, Try.func12, ok35⟩
  · exact ⟨Try.f36, Try.func36, ok38⟩
  · exact ⟨Try.f37, Try.func37, ok39⟩
  · exact ⟨Try.f38, Try.func38, ok40⟩
  · exact ⟨Try.f40, Try.func40, ok43⟩
  · exact ⟨Try.f31, Try.func31, ok44⟩
  · exact ⟨Try.f32, Try.func32, ok54⟩
  · exact ⟨Try.f33, Try.func33, ok55⟩
  · exact ⟨Try.f65, Try.func65, ok56⟩
  · exact ⟨Try.f67, Try.func67, ok45⟩
  · exact ⟨Try.f68, Try.func68, ok51⟩
  · exact ⟨Try.f69, Try.func69, ok48⟩
  · exact ⟨Try.f70, Try.func70, ok57⟩
  · exact ⟨Try.f72, Try.func72, ok46⟩
  · exact ⟨Try.f73, Try.func73, ok52⟩
  · exact ⟨Try.f74, Try.func74, ok49⟩
  · exact ⟨Try.f75, Try.func75, ok58⟩
  · exact ⟨Try.f77, Try.func77, ok47⟩
  · exact ⟨Try.f78, Try.func78, ok53⟩
  · exact ⟨Try.f79, Try.func79, ok50⟩
  · exact ⟨Try.f34, Try.func34, ok59⟩
  · exact ⟨Try.f46, Try.func46, ok60⟩
  · exact ⟨Try.f66, Try.func66, ok61⟩
  · exact ⟨Try.f71, Try.func71, ok62⟩
  · exact ⟨Try.f76, Try.func76, ok63⟩
  · exact ⟨Try.f43, Try.func43, ok64⟩
theorem tie : Tie Try.prog pr link := ⟨by kernel_rfl, tied⟩
end Go.Proofs.Ytbjckcenlfgcaaa.symtab
