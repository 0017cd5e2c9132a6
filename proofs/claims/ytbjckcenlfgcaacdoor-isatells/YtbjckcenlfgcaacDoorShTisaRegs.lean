/- The shadow functions of regs are the functions of the program. -/
import Derived.Test.YtbjckcenlfgcaacDoorProg
import Derived.Test.YtbjckcenlfgcaacDoorShFbits
import Derived.Test.YtbjckcenlfgcaacDoorShFcmp
import Derived.Test.YtbjckcenlfgcaacDoorShFisa
import Derived.Test.YtbjckcenlfgcaacDoorShFlaw0
import Derived.Test.YtbjckcenlfgcaacDoorShFlaw2
import Derived.Test.YtbjckcenlfgcaacDoorShFref2
import Derived.Test.YtbjckcenlfgcaacDoorShFslices
import Derived.Test.YtbjckcenlfgcaacDoorShTabs
import Derived.Test.YtbjckcenlfgcaacDoorShBe
import Derived.KernelRfl
namespace Go.Proofs.YtbjckcenlfgcaacDoor.regs
open Go.Sh
def fns : List (Nat × SFn) := [(90, F90_spindlelaw2_IsaTells), (82, F82_isa_Writes), (83, F83_isa_Reads), (16, F16_spindlelaw0_SameInts), (86, F86_spindleref2_Writes), (87, F87_spindleref2_Reads), (25, F25_spindlelaw2_awake), (84, F84_isa_Jumps), (85, F85_isa_Wide), (88, F88_spindleref2_Jumps), (89, F89_spindleref2_Wide), (27, F27_isa_May), (18, F18_isa_form), (91, F91_isa_run), (11, F11_isa_Info), (92, F92_slices_Sort_int_int), (93, F93_slices_Compact_int_int), (65, F65_spindleref2_May), (17, F17_spindleref2_Rows), (94, F94_spindleref2_upTo), (95, F95_spindleref2_called), (96, F96_spindleref2_rising), (28, F28_isa_offs), (29, F29_isa_imms), (22, F22_slices_Contains_int_int), (98, F98_slices_pdqsortOrdered_int), (97, F97_math_bits_Len), (67, F67_spindleref2_fits), (19, F19_spindleref2_arithmetic), (20, F20_spindleref2_jumps), (21, F21_spindleref2_moves), (24, F24_slices_Index_int_int), (99, F99_slices_insertionSortOrdered_int), (100, F100_slices_heapSortOrdered_int), (101, F101_slices_breakPatternsOrdered_int), (102, F102_slices_choosePivotOrdered_int), (103, F103_slices_reverseRangeOrdered_int), (104, F104_slices_partialInsertionSortOrdered_int), (105, F105_cmp_Less_int), (106, F106_slices_partitionEqualOrdered_int), (107, F107_slices_partitionOrdered_int), (108, F108_math_bits_Len32), (109, F109_math_bits_Len64), (23, F23_spindleref2_has), (68, F68_spindleref2_register), (110, F110_slices_siftDownOrdered_int), (111, F111_slices_nextPowerOfTwo), (112, F112_slices_xorshift_Next), (113, F113_slices_medianAdjacentOrdered_int), (114, F114_slices_medianOrdered_int), (115, F115_cmp_isNaN_int), (116, F116_slices_order2Ordered_int)]
def pr : Prog := ⟨fun f => fns.lookup f, tabs⟩
def fnNo : List (Nat × Nat) := [(90, 4), (82, 5), (83, 6), (16, 7), (86, 8), (87, 9), (25, 14), (84, 15), (85, 16), (88, 17), (89, 18), (27, 19), (18, 20), (91, 21), (11, 22), (92, 23), (93, 24), (65, 25), (17, 26), (94, 27), (95, 28), (96, 29), (28, 34), (29, 35), (22, 36), (98, 37), (97, 38), (67, 39), (19, 40), (20, 41), (21, 42), (24, 45), (99, 46), (100, 47), (101, 48), (102, 49), (103, 50), (104, 51), (105, 52), (106, 53), (107, 54), (108, 55), (109, 56), (23, 57), (68, 58), (110, 59), (111, 60), (112, 61), (113, 62), (114, 63), (115, 64), (116, 65)]
def glNo : List (Nat × Nat) := [(0, 0), (1, 1), (2, 2), (3, 3), (4, 4)]
def tyNo : List (Nat × Nat) := []
def link : Link := ⟨fun t => (tyNo.lookup t).getD 0, fun f => (fnNo.lookup f).getD 0, fun g => (glNo.lookup g).getD 0⟩
theorem ok90 : okFn Tryd.prog pr link Tryd.f4 F90_spindlelaw2_IsaTells = true := by kernel_rfl
theorem ok82 : okFn Tryd.prog pr link Tryd.f5 F82_isa_Writes = true := by kernel_rfl
theorem ok83 : okFn Tryd.prog pr link Tryd.f6 F83_isa_Reads = true := by kernel_rfl
theorem ok16 : okFn Tryd.prog pr link Tryd.f7 F16_spindlelaw0_SameInts = true := by kernel_rfl
theorem ok86 : okFn Tryd.prog pr link Tryd.f8 F86_spindleref2_Writes = true := by kernel_rfl
theorem ok87 : okFn Tryd.prog pr link Tryd.f9 F87_spindleref2_Reads = true := by kernel_rfl
theorem ok25 : okFn Tryd.prog pr link Tryd.f14 F25_spindlelaw2_awake = true := by kernel_rfl
theorem ok84 : okFn Tryd.prog pr link Tryd.f15 F84_isa_Jumps = true := by kernel_rfl
theorem ok85 : okFn Tryd.prog pr link Tryd.f16 F85_isa_Wide = true := by kernel_rfl
theorem ok88 : okFn Tryd.prog pr link Tryd.f17 F88_spindleref2_Jumps = true := by kernel_rfl
theorem ok89 : okFn Tryd.prog pr link Tryd.f18 F89_spindleref2_Wide = true := by kernel_rfl
theorem ok27 : okFn Tryd.prog pr link Tryd.f19 F27_isa_May = true := by kernel_rfl
theorem ok18 : okFn Tryd.prog pr link Tryd.f20 F18_isa_form = true := by kernel_rfl
theorem ok91 : okFn Tryd.prog pr link Tryd.f21 F91_isa_run = true := by kernel_rfl
theorem ok11 : okFn Tryd.prog pr link Tryd.f22 F11_isa_Info = true := by kernel_rfl
theorem ok92 : okFn Tryd.prog pr link Tryd.f23 F92_slices_Sort_int_int = true := by kernel_rfl
theorem ok93 : okFn Tryd.prog pr link Tryd.f24 F93_slices_Compact_int_int = true := by kernel_rfl
theorem ok65 : okFn Tryd.prog pr link Tryd.f25 F65_spindleref2_May = true := by kernel_rfl
theorem ok17 : okFn Tryd.prog pr link Tryd.f26 F17_spindleref2_Rows = true := by kernel_rfl
theorem ok94 : okFn Tryd.prog pr link Tryd.f27 F94_spindleref2_upTo = true := by kernel_rfl
theorem ok95 : okFn Tryd.prog pr link Tryd.f28 F95_spindleref2_called = true := by kernel_rfl
theorem ok96 : okFn Tryd.prog pr link Tryd.f29 F96_spindleref2_rising = true := by kernel_rfl
theorem ok28 : okFn Tryd.prog pr link Tryd.f34 F28_isa_offs = true := by kernel_rfl
theorem ok29 : okFn Tryd.prog pr link Tryd.f35 F29_isa_imms = true := by kernel_rfl
theorem ok22 : okFn Tryd.prog pr link Tryd.f36 F22_slices_Contains_int_int = true := by kernel_rfl
theorem ok98 : okFn Tryd.prog pr link Tryd.f37 F98_slices_pdqsortOrdered_int = true := by kernel_rfl
theorem ok97 : okFn Tryd.prog pr link Tryd.f38 F97_math_bits_Len = true := by kernel_rfl
theorem ok67 : okFn Tryd.prog pr link Tryd.f39 F67_spindleref2_fits = true := by kernel_rfl
theorem ok19 : okFn Tryd.prog pr link Tryd.f40 F19_spindleref2_arithmetic = true := by kernel_rfl
theorem ok20 : okFn Tryd.prog pr link Tryd.f41 F20_spindleref2_jumps = true := by kernel_rfl
theorem ok21 : okFn Tryd.prog pr link Tryd.f42 F21_spindleref2_moves = true := by kernel_rfl
theorem ok24 : okFn Tryd.prog pr link Tryd.f45 F24_slices_Index_int_int = true := by kernel_rfl
theorem ok99 : okFn Tryd.prog pr link Tryd.f46 F99_slices_insertionSortOrdered_int = true := by kernel_rfl
theorem ok100 : okFn Tryd.prog pr link Tryd.f47 F100_slices_heapSortOrdered_int = true := by kernel_rfl
theorem ok101 : okFn Tryd.prog pr link Tryd.f48 F101_slices_breakPatternsOrdered_int = true := by kernel_rfl
theorem ok102 : okFn Tryd.prog pr link Tryd.f49 F102_slices_choosePivotOrdered_int = true := by kernel_rfl
theorem ok103 : okFn Tryd.prog pr link Tryd.f50 F103_slices_reverseRangeOrdered_int = true := by kernel_rfl
theorem ok104 : okFn Tryd.prog pr link Tryd.f51 F104_slices_partialInsertionSortOrdered_int = true := by kernel_rfl
theorem ok105 : okFn Tryd.prog pr link Tryd.f52 F105_cmp_Less_int = true := by kernel_rfl
theorem ok106 : okFn Tryd.prog pr link Tryd.f53 F106_slices_partitionEqualOrdered_int = true := by kernel_rfl
theorem ok107 : okFn Tryd.prog pr link Tryd.f54 F107_slices_partitionOrdered_int = true := by kernel_rfl
theorem ok108 : okFn Tryd.prog pr link Tryd.f55 F108_math_bits_Len32 = true := by kernel_rfl
theorem ok109 : okFn Tryd.prog pr link Tryd.f56 F109_math_bits_Len64 = true := by kernel_rfl
theorem ok23 : okFn Tryd.prog pr link Tryd.f57 F23_spindleref2_has = true := by kernel_rfl
theorem ok68 : okFn Tryd.prog pr link Tryd.f58 F68_spindleref2_register = true := by kernel_rfl
theorem ok110 : okFn Tryd.prog pr link Tryd.f59 F110_slices_siftDownOrdered_int = true := by kernel_rfl
theorem ok111 : okFn Tryd.prog pr link Tryd.f60 F111_slices_nextPowerOfTwo = true := by kernel_rfl
theorem ok112 : okFn Tryd.prog pr link Tryd.f61 F112_slices_xorshift_Next = true := by kernel_rfl
theorem ok113 : okFn Tryd.prog pr link Tryd.f62 F113_slices_medianAdjacentOrdered_int = true := by kernel_rfl
theorem ok114 : okFn Tryd.prog pr link Tryd.f63 F114_slices_medianOrdered_int = true := by kernel_rfl
theorem ok115 : okFn Tryd.prog pr link Tryd.f64 F115_cmp_isNaN_int = true := by kernel_rfl
theorem ok116 : okFn Tryd.prog pr link Tryd.f65 F116_slices_order2Ordered_int = true := by kernel_rfl
theorem tied : Tied Tryd.prog pr link := tied_of (fns := fns) (fun _ => rfl) fun x hx => by
  simp only [fns, List.mem_cons, List.not_mem_nil, or_false] at hx
  rcases hx with rfl | rfl | rfl | rfl | rfl | rfl | rfl | rfl | rfl | rfl | rfl | rfl | rfl | rfl | rfl | rfl | rfl | rfl | rfl | rfl | rfl | rfl | rfl | rfl | rfl | rfl | rfl | rfl | rfl | rfl | rfl | rfl | rfl | rfl | rfl | rfl | rfl | rfl | rfl | rfl | rfl | rfl | rfl | rfl | rfl | rfl | rfl | rfl | rfl | rfl | rfl | rfl
  · exact ⟨Tryd.f4, Tryd.func4, ok90⟩
  · exact ⟨Tryd.f5, Tryd.func5, ok82⟩
  · exact ⟨Tryd.f6, Tryd.func6, ok83⟩
  · exact ⟨Tryd.f7, Tryd.func7, ok16⟩
  · exact ⟨Tryd.f8, Tryd.func8, ok86⟩
  · exact ⟨Tryd.f9, Tryd.func9, ok87⟩
  · exact ⟨Tryd.f14, Tryd.func14, ok25⟩
  · exact ⟨Tryd.f15, Tryd.func15, ok84⟩
  · exact ⟨Tryd.f16, Tryd.func16, ok85⟩
  · exact ⟨Tryd.f17, Tryd.func17, ok88⟩
  · exact ⟨Tryd.f18, Tryd.func18, ok89⟩
  · exact ⟨Tryd.f19, Tryd.func19, ok27⟩
  · exact ⟨Tryd.f20, Tryd.func20, ok18⟩
  · exact ⟨Tryd.f21, Tryd.func21, ok91⟩
  · exact ⟨Tryd.f22, Tryd.func22, ok11⟩
  · exact ⟨Tryd.f23, Tryd.func23, ok92⟩
  · exact ⟨Tryd.f24, Tryd.func24, ok93⟩
  · exact ⟨Tryd.f25, Tryd.func25, ok65⟩
  · exact ⟨Tryd.f26, Tryd.func26, ok17⟩
  · exact ⟨Tryd.f27, Tryd.func27, ok94⟩
  · exact ⟨Tryd.f28, Tryd.func28, ok95⟩
  · exact ⟨Tryd.f29, Tryd.func29, ok96⟩
  · exact ⟨Tryd.f34, Tryd.func34, ok28⟩
  · exact ⟨Tryd.f35, Tryd.func35, ok29⟩
  · exact ⟨Tryd.f36, Tryd.func36, ok22⟩
  · exact ⟨Tryd.f37, Tryd.func37, ok98⟩
  · exact ⟨Tryd.f38, Tryd.func38, ok97⟩
  · exact ⟨Tryd.f39, Tryd.func39, ok67⟩
  · exact ⟨Tryd.f40, Tryd.func40, ok19⟩
  · exact ⟨Tryd.f41, Tryd.func41, ok20⟩
  · exact ⟨Tryd.f42, Tryd.func42, ok21⟩
  · exact ⟨Tryd.f45, Tryd.func45, ok24⟩
  · exact ⟨Tryd.f46, Tryd.func46, ok99⟩
  · exact ⟨Tryd.f47, Tryd.func47, ok100⟩
  · exact ⟨Tryd.f48, Tryd.func48, ok101⟩
  · exact ⟨Tryd.f49, Tryd.func49, ok102⟩
  · exact ⟨Tryd.f50, Tryd.func50, ok103⟩
  · exact ⟨Tryd.f51, Tryd.func51, ok104⟩
  · exact ⟨Tryd.f52, Tryd.func52, ok105⟩
  · exact ⟨Tryd.f53, Tryd.func53, ok106⟩
  · exact ⟨Tryd.f54, Tryd.func54, ok107⟩
  · exact ⟨Tryd.f55, Tryd.func55, ok108⟩
  · exact ⟨Tryd.f56, Tryd.func56, ok109⟩
  · exact ⟨Tryd.f57, Tryd.func57, ok23⟩
  · exact ⟨Tryd.f58, Tryd.func58, ok68⟩
  · exact ⟨Tryd.f59, Tryd.func59, ok110⟩
  · exact ⟨Tryd.f60, Tryd.func60, ok111⟩
  · exact ⟨Tryd.f61, Tryd.func61, ok112⟩
  · exact ⟨Tryd.f62, Tryd.func62, ok113⟩
  · exact ⟨Tryd.f63, Tryd.func63, ok114⟩
  · exact ⟨Tryd.f64, Tryd.func64, ok115⟩
  · exact ⟨Tryd.f65, Tryd.func65, ok116⟩
theorem tie : Tie Tryd.prog pr link := ⟨by kernel_rfl, tied⟩
end Go.Proofs.YtbjckcenlfgcaacDoor.regs
