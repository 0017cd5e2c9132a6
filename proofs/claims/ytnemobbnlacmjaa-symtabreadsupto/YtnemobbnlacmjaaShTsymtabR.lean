/- The shadow functions of symtabR are the functions of the program. -/
import Derived.Test.YtnemobbnlacmjaaProg
import Derived.Test.YtnemobbnlacmjaaShFlaw0
import Derived.Test.YtnemobbnlacmjaaShFlaw10
import Derived.Test.YtnemobbnlacmjaaShFref10
import Derived.Test.YtnemobbnlacmjaaShFsymtab
import Derived.Test.YtnemobbnlacmjaaShBe
import Derived.KernelRfl
namespace Go.Proofs.Ytnemobbnlacmjaa.symtabR
open Go.Sh
def fns : List (Nat × SFn) := [(204, F204_spindlelaw10_SymtabReads), (30, F30_spindlelaw10_awake), (225, F225_spindlelaw0_CopyBytes_row), (203, F203_spindlelaw10_reads), (205, F205_spindlelaw10_Symbols_Holds), (31, F31_symtab_Write), (12, F12_spindlelaw0_Num), (32, F32_symtab_Read), (42, F42_spindleref10_Read), (169, F169_spindlelaw0_Lender_Lend), (33, F33_spindlelaw10_sameSymbols), (170, F170_spindlelaw0_Lender_Back), (206, F206_spindlelaw10_Symbols_Own), (207, F207_spindlelaw10_Symbols_untouched), (208, F208_spindlelaw10_Symbols_same), (44, F44_symtab_sortOf), (54, F54_symtab_order_next), (55, F55_symtab_put), (56, F56_symtab_function_info), (45, F45_symtab_function_section), (51, F51_symtab_function_size), (48, F48_symtab_function_value), (57, F57_symtab_table_info), (46, F46_symtab_table_section), (52, F52_symtab_table_size), (49, F49_symtab_table_value), (58, F58_symtab_extern_info), (47, F47_symtab_extern_section), (53, F53_symtab_extern_size), (50, F50_symtab_extern_value), (59, F59_symtab_entry), (43, F43_spindleref10_entry), (39, F39_spindleref10_follows), (38, F38_spindleref10_Sort), (174, F174_spindlelaw0_Lender_mark), (209, F209_spindlelaw10_Symbols_write), (61, F61_symtab_function_rank), (62, F62_symtab_table_rank), (63, F63_symtab_extern_rank), (64, F64_symtab_get), (60, F60_spindleref10_told), (210, F210_spindlelaw10_markSymbols), (211, F211_spindlelaw10_Symbols_keep)]
def pr : Prog := ⟨fun f => fns.lookup f, fun _ => none, fun _ => none⟩
def fnNo : List (Nat × Nat) := [(204, 3), (30, 4), (225, 5), (203, 6), (205, 7), (31, 8), (12, 9), (32, 10), (42, 11), (169, 12), (33, 13), (170, 14), (206, 15), (207, 16), (208, 17), (44, 18), (54, 19), (55, 20), (56, 47), (45, 49), (51, 50), (48, 51), (57, 52), (46, 54), (52, 55), (49, 56), (58, 57), (47, 59), (53, 60), (50, 61), (59, 21), (43, 22), (39, 23), (38, 24), (174, 25), (209, 26), (61, 48), (62, 53), (63, 58), (64, 27), (60, 28), (210, 29), (211, 30)]
def glNo : List (Nat × Nat) := []
def tyNo : List (Nat × Nat) := [(0, 67), (1, 69), (2, 70)]
def link : Link := ⟨fun t => (tyNo.lookup t).getD 0, fun f => (fnNo.lookup f).getD 0, fun g => (glNo.lookup g).getD 0⟩
theorem ok204 : okFn Try.prog pr link Try.f3 F204_spindlelaw10_SymtabReads = true := by kernel_rfl
theorem ok30 : okFn Try.prog pr link Try.f4 F30_spindlelaw10_awake = true := by kernel_rfl
theorem ok225 : okFn Try.prog pr link Try.f5 F225_spindlelaw0_CopyBytes_row = true := by kernel_rfl
theorem ok203 : okFn Try.prog pr link Try.f6 F203_spindlelaw10_reads = true := by kernel_rfl
theorem ok205 : okFn Try.prog pr link Try.f7 F205_spindlelaw10_Symbols_Holds = true := by kernel_rfl
theorem ok31 : okFn Try.prog pr link Try.f8 F31_symtab_Write = true := by kernel_rfl
theorem ok12 : okFn Try.prog pr link Try.f9 F12_spindlelaw0_Num = true := by kernel_rfl
theorem ok32 : okFn Try.prog pr link Try.f10 F32_symtab_Read = true := by kernel_rfl
theorem ok42 : okFn Try.prog pr link Try.f11 F42_spindleref10_Read = true := by kernel_rfl
theorem ok169 : okFn Try.prog pr link Try.f12 F169_spindlelaw0_Lender_Lend = true := by kernel_rfl
theorem ok33 : okFn Try.prog pr link Try.f13 F33_spindlelaw10_sameSymbols = true := by kernel_rfl
theorem ok170 : okFn Try.prog pr link Try.f14 F170_spindlelaw0_Lender_Back = true := by kernel_rfl
theorem ok206 : okFn Try.prog pr link Try.f15 F206_spindlelaw10_Symbols_Own = true := by kernel_rfl
theorem ok207 : okFn Try.prog pr link Try.f16 F207_spindlelaw10_Symbols_untouched = true := by kernel_rfl
theorem ok208 : okFn Try.prog pr link Try.f17 F208_spindlelaw10_Symbols_same = true := by kernel_rfl
theorem ok44 : okFn Try.prog pr link Try.f18 F44_symtab_sortOf = true := by kernel_rfl
theorem ok54 : okFn Try.prog pr link Try.f19 F54_symtab_order_next = true := by kernel_rfl
theorem ok55 : okFn Try.prog pr link Try.f20 F55_symtab_put = true := by kernel_rfl
theorem ok56 : okFn Try.prog pr link Try.f47 F56_symtab_function_info = true := by kernel_rfl
theorem ok45 : okFn Try.prog pr link Try.f49 F45_symtab_function_section = true := by kernel_rfl
theorem ok51 : okFn Try.prog pr link Try.f50 F51_symtab_function_size = true := by kernel_rfl
theorem ok48 : okFn Try.prog pr link Try.f51 F48_symtab_function_value = true := by kernel_rfl
theorem ok57 : okFn Try.prog pr link Try.f52 F57_symtab_table_info = true := by kernel_rfl
theorem ok46 : okFn Try.prog pr link Try.f54 F46_symtab_table_section = true := by kernel_rfl
theorem ok52 : okFn Try.prog pr link Try.f55 F52_symtab_table_size = true := by kernel_rfl
theorem ok49 : okFn Try.prog pr link Try.f56 F49_symtab_table_value = true := by kernel_rfl
theorem ok58 : okFn Try.prog pr link Try.f57 F58_symtab_extern_info = true := by kernel_rfl
theorem ok47 : okFn Try.prog pr link Try.f59 F47_symtab_extern_section = true := by kernel_rfl
theorem ok53 : okFn Try.prog pr link Try.f60 F53_symtab_extern_size = true := by kernel_rfl
theorem ok50 : okFn Try.prog pr link Try.f61 F50_symtab_extern_value = true := by kernel_rfl
theorem ok59 : okFn Try.prog pr link Try.f21 F59_symtab_entry = true := by kernel_rfl
theorem ok43 : okFn Try.prog pr link Try.f22 F43_spindleref10_entry = true := by kernel_rfl
theorem ok39 : okFn Try.prog pr link Try.f23 F39_spindleref10_follows = true := by kernel_rfl
theorem ok38 : okFn Try.prog pr link Try.f24 F38_spindleref10_Sort = true := by kernel_rfl
theorem ok174 : okFn Try.prog pr link Try.f25 F174_spindlelaw0_Lender_mark = true := by kernel_rfl
theorem ok209 : okFn Try.prog pr link Try.f26 F209_spindlelaw10_Symbols_write = true := by kernel_rfl
theorem ok61 : okFn Try.prog pr link Try.f48 F61_symtab_function_rank = true := by kernel_rfl
theorem ok62 : okFn Try.prog pr link Try.f53 F62_symtab_table_rank = true := by kernel_rfl
theorem ok63 : okFn Try.prog pr link Try.f58 F63_symtab_extern_rank = true := by kernel_rfl
theorem ok64 : okFn Try.prog pr link Try.f27 F64_symtab_get = true := by kernel_rfl
theorem ok60 : okFn Try.prog pr link Try.f28 F60_spindleref10_told = true := by kernel_rfl
theorem ok210 : okFn Try.prog pr link Try.f29 F210_spindlelaw10_markSymbols = true := by kernel_rfl
theorem ok211 : okFn Try.prog pr link Try.f30 F211_spindlelaw10_Symbols_keep = true := by kernel_rfl
theorem tied : Tied Try.prog pr link := tied_of (fns := fns) (fun _ => rfl) fun x hx => by
  simp only [fns, List.mem_cons, List.not_mem_nil, or_false] at hx
  rcases hx with rfl | rfl | rfl | rfl | rfl | rfl | rfl | rfl | rfl | rfl | rfl | rfl | rfl | rfl | rfl | rfl | rfl | rfl | rfl | rfl | rfl | rfl | rfl | rfl | rfl | rfl | rfl | rfl | rfl | rfl | rfl | rfl | rfl | rfl | rfl | rfl | rfl | rfl | rfl | rfl | rfl | rfl | rfl
  · exact ⟨Try.f3, Try.func3, ok204⟩
  · exact ⟨Try.f4, Try.func4, ok30⟩
  · exact ⟨Try.f5, Try.func5, ok225⟩
  · exact ⟨Try.f6, Try.func6, ok203⟩
  · exact ⟨Try.f7, Try.func7, ok205⟩
  · exact ⟨Try.f8, Try.func8, ok31⟩
  · exact ⟨Try.f9, Try.func9, ok12⟩
  · exact ⟨Try.f10, Try.func10, ok32⟩
  · exact ⟨Try.f11, Try.func11, ok42⟩
  · exact ⟨Try.f12, Try.func12, ok169⟩
  · exact ⟨Try.f13, Try.func13, ok33⟩
  · exact ⟨Try.f14, Try.func14, ok170⟩
  · exact ⟨Try.f15, Try.func15, ok206⟩
  · exact ⟨Try.f16, Try.func16, ok207⟩
  · exact ⟨Try.f17, Try.func17, ok208⟩
  · exact ⟨Try.f18, Try.func18, ok44⟩
  · exact ⟨Try.f19, Try.func19, ok54⟩
  · exact ⟨Try.f20, Try.func20, ok55⟩
  · exact ⟨Try.f47, Try.func47, ok56⟩
  · exact ⟨Try.f49, Try.func49, ok45⟩
  · exact ⟨Try.f50, Try.func50, ok51⟩
  · exact ⟨Try.f51, Try.func51, ok48⟩
  · exact ⟨Try.f52, Try.func52, ok57⟩
  · exact ⟨Try.f54, Try.func54, ok46⟩
  · exact ⟨Try.f55, Try.func55, ok52⟩
  · exact ⟨Try.f56, Try.func56, ok49⟩
  · exact ⟨Try.f57, Try.func57, ok58⟩
  · exact ⟨Try.f59, Try.func59, ok47⟩
  · exact ⟨Try.f60, Try.func60, ok53⟩
  · exact ⟨Try.f61, Try.func61, ok50⟩
  · exact ⟨Try.f21, Try.func21, ok59⟩
  · exact ⟨Try.f22, Try.func22, ok43⟩
  · exact ⟨Try.f23, Try.func23, ok39⟩
  · exact ⟨Try.f24, Try.func24, ok38⟩
  · exact ⟨Try.f25, Try.func25, ok174⟩
  · exact ⟨Try.f26, Try.func26, ok209⟩
  · exact ⟨Try.f48, Try.func48, ok61⟩
  · exact ⟨Try.f53, Try.func53, ok62⟩
  · exact ⟨Try.f58, Try.func58, ok63⟩
  · exact ⟨Try.f27, Try.func27, ok64⟩
  · exact ⟨Try.f28, Try.func28, ok60⟩
  · exact ⟨Try.f29, Try.func29, ok210⟩
  · exact ⟨Try.f30, Try.func30, ok211⟩
theorem tie : Tie Try.prog pr link := ⟨by kernel_rfl, tied⟩
end Go.Proofs.Ytnemobbnlacmjaa.symtabR
