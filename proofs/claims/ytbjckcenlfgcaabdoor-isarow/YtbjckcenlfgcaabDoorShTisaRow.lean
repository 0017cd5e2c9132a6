/- The shadow functions of row are the functions of the program. -/
import Derived.Test.YtbjckcenlfgcaabDoorProg
import Derived.Test.YtbjckcenlfgcaabDoorShFbits
import Derived.Test.YtbjckcenlfgcaabDoorShFcmp
import Derived.Test.YtbjckcenlfgcaabDoorShFisa
import Derived.Test.YtbjckcenlfgcaabDoorShFlaw2
import Derived.Test.YtbjckcenlfgcaabDoorShFslices
import Derived.Test.YtbjckcenlfgcaabDoorShTabs
import Derived.Test.YtbjckcenlfgcaabDoorShBe
import Derived.KernelRfl
namespace Go.Proofs.YtbjckcenlfgcaabDoor.row
open Go.Sh
def fns : List (Nat × SFn) := [(119, F119_spindlelaw2_IsaRow), (27, F27_isa_May), (25, F25_spindlelaw2_awake), (11, F11_isa_Info), (82, F82_isa_Writes), (83, F83_isa_Reads), (117, F117_spindlelaw2_within), (118, F118_spindlelaw2_fixed), (28, F28_isa_offs), (29, F29_isa_imms), (18, F18_isa_form), (91, F91_isa_run), (92, F92_slices_Sort_int_int), (93, F93_slices_Compact_int_int), (22, F22_slices_Contains_int_int), (98, F98_slices_pdqsortOrdered_int), (97, F97_math_bits_Len), (24, F24_slices_Index_int_int), (99, F99_slices_insertionSortOrdered_int), (100, F100_slices_heapSortOrdered_int), (101, F101_slices_breakPatternsOrdered_int), (102, F102_slices_choosePivotOrdered_int), (103, F103_slices_reverseRangeOrdered_int), (104, F104_slices_partialInsertionSortOrdered_int), (105, F105_cmp_Less_int), (106, F106_slices_partitionEqualOrdered_int), (107, F107_slices_partitionOrdered_int), (108, F108_math_bits_Len32), (109, F109_math_bits_Len64), (110, F110_slices_siftDownOrdered_int), (111, F111_slices_nextPowerOfTwo), (112, F112_slices_xorshift_Next), (113, F113_slices_medianAdjacentOrdered_int), (114, F114_slices_medianOrdered_int), (115, F115_cmp_isNaN_int), (116, F116_slices_order2Ordered_int)]
def pr : Prog := ⟨fun f => fns.lookup f, tabs⟩
def fnNo : List (Nat × Nat) := [(119, 8), (27, 27), (25, 30), (11, 31), (82, 32), (83, 33), (117, 34), (118, 35), (28, 49), (29, 50), (18, 51), (91, 52), (92, 53), (93, 54), (22, 67), (98, 68), (97, 69), (24, 75), (99, 76), (100, 77), (101, 78), (102, 79), (103, 80), (104, 81), (105, 82), (106, 83), (107, 84), (108, 85), (109, 86), (110, 87), (111, 88), (112, 89), (113, 90), (114, 91), (115, 92), (116, 93)]
def glNo : List (Nat × Nat) := [(0, 1), (1, 2), (2, 3), (3, 4), (4, 0)]
def tyNo : List (Nat × Nat) := []
def link : Link := ⟨fun t => (tyNo.lookup t).getD 0, fun f => (fnNo.lookup f).getD 0, fun g => (glNo.lookup g).getD 0⟩
theorem ok119 : okFn Tryd.prog pr link Tryd.f8 F119_spindlelaw2_IsaRow = true := by kernel_rfl
theorem ok27 : okFn Tryd.prog pr link Tryd.f27 F27_isa_May = true := by kernel_rfl
theorem ok25 : okFn Tryd.prog pr link Tryd.f30 F25_spindlelaw2_awake = true := by kernel_rfl
theorem ok11 : okFn Tryd.prog pr link Tryd.f31 F11_isa_Info = true := by kernel_rfl
theorem ok82 : okFn Tryd.prog pr link Tryd.f32 F82_isa_Writes = true := by kernel_rfl
theorem ok83 : okFn Tryd.prog pr link Tryd.f33 F83_isa_Reads = true := by kernel_rfl
theorem ok117 : okFn Tryd.prog pr link Tryd.f34 F117_spindlelaw2_within = true := by kernel_rfl
theorem ok118 : okFn Tryd.prog pr link Tryd.f35 F118_spindlelaw2_fixed = true := by kernel_rfl
theorem ok28 : okFn Tryd.prog pr link Tryd.f49 F28_isa_offs = true := by kernel_rfl
theorem ok29 : okFn Tryd.prog pr link Tryd.f50 F29_isa_imms = true := by kernel_rfl
theorem ok18 : okFn Tryd.prog pr link Tryd.f51 F18_isa_form = true := by kernel_rfl
theorem ok91 : okFn Tryd.prog pr link Tryd.f52 F91_isa_run = true := by kernel_rfl
theorem ok92 : okFn Tryd.prog pr link Tryd.f53 F92_slices_Sort_int_int = true := by kernel_rfl
theorem ok93 : okFn Tryd.prog pr link Tryd.f54 F93_slices_Compact_int_int = true := by kernel_rfl
theorem ok22 : okFn Tryd.prog pr link Tryd.f67 F22_slices_Contains_int_int = true := by kernel_rfl
theorem ok98 : okFn Tryd.prog pr link Tryd.f68 F98_slices_pdqsortOrdered_int = true := by kernel_rfl
theorem ok97 : okFn Tryd.prog pr link Tryd.f69 F97_math_bits_Len = true := by kernel_rfl
theorem ok24 : okFn Tryd.prog pr link Tryd.f75 F24_slices_Index_int_int = true := by kernel_rfl
theorem ok99 : okFn Tryd.prog pr link Tryd.f76 F99_slices_insertionSortOrdered_int = true := by kernel_rfl
theorem ok100 : okFn Tryd.prog pr link Tryd.f77 F100_slices_heapSortOrdered_int = true := by kernel_rfl
theorem ok101 : okFn Tryd.prog pr link Tryd.f78 F101_slices_breakPatternsOrdered_int = true := by kernel_rfl
theorem ok102 : okFn Tryd.prog pr link Tryd.f79 F102_slices_choosePivotOrdered_int = true := by kernel_rfl
theorem ok103 : okFn Tryd.prog pr link Tryd.f80 F103_slices_reverseRangeOrdered_int = true := by kernel_rfl
theorem ok104 : okFn Tryd.prog pr link Tryd.f81 F104_slices_partialInsertionSortOrdered_int = true := by kernel_rfl
theorem ok105 : okFn Tryd.prog pr link Tryd.f82 F105_cmp_Less_int = true := by kernel_rfl
theorem ok106 : okFn Tryd.prog pr link Tryd.f83 F106_slices_partitionEqualOrdered_int = true := by kernel_rfl
theorem ok107 : okFn Tryd.prog pr link Tryd.f84 F107_slices_partitionOrdered_int = true := by kernel_rfl
theorem ok108 : okFn Tryd.prog pr link Tryd.f85 F108_math_bits_Len32 = true := by kernel_rfl
theorem ok109 : okFn Tryd.prog pr link Tryd.f86 F109_math_bits_Len64 = true := by kernel_rfl
theorem ok110 : okFn Tryd.prog pr link Tryd.f87 F110_slices_siftDownOrdered_int = true := by kernel_rfl
theorem ok111 : okFn Tryd.prog pr link Tryd.f88 F111_slices_nextPowerOfTwo = true := by kernel_rfl
theorem ok112 : okFn Tryd.prog pr link Tryd.f89 F112_slices_xorshift_Next = true := by kernel_rfl
theorem ok113 : okFn Tryd.prog pr link Tryd.f90 F113_slices_medianAdjacentOrdered_int = true := by kernel_rfl
theorem ok114 : okFn Tryd.prog pr link Tryd.f91 F114_slices_medianOrdered_int = true := by kernel_rfl
theorem ok115 : okFn Tryd.prog pr link Tryd.f92 F115_cmp_isNaN_int = true := by kernel_rfl
theorem ok116 : okFn Tryd.prog pr link Tryd.f93 F116_slices_order2Ordered_int = true := by kernel_rfl
theorem tied : Tied Tryd.prog pr link := tied_of (fns := fns) (fun _ => rfl) fun x hx => by
  simp only [fns, List.mem_cons, List.not_mem_nil, or_false] at hx
  rcases hx with rfl | rfl | rfl | rfl | rfl | rfl | rfl | rfl | rfl | rfl | rfl | rfl | rfl | rfl | rfl | rfl | rfl | rfl | rfl | rfl | rfl | rfl | rfl | rfl | rfl | rfl | rfl | rfl | rfl | rfl | rfl | rfl | rfl | rfl | rfl | rfl
  · exact ⟨Tryd.f8, Tryd.func8, ok119⟩
  · exact ⟨Tryd.f27, Tryd.func27, ok27⟩
  · exact ⟨Tryd.f30, Tryd.func30, ok25⟩
  · exact ⟨Tryd.f31, Tryd.func31, ok11⟩
  · exact ⟨Tryd.f32, Tryd.func32, ok82⟩
  · exact ⟨Tryd.f33, Tryd.func33, ok83⟩
  · exact ⟨Tryd.f34, Tryd.func34, ok117⟩
  · exact ⟨Tryd.f35, Tryd.func35, ok118⟩
  · exact ⟨Tryd.f49, Tryd.func49, ok28⟩
  · exact ⟨Tryd.f50, Tryd.func50, ok29⟩
  · exact ⟨Tryd.f51, Tryd.func51, ok18⟩
  · exact ⟨Tryd.f52, Tryd.func52, ok91⟩
  · exact ⟨Tryd.f53, Tryd.func53, ok92⟩
  · exact ⟨Tryd.f54, Tryd.func54, ok93⟩
  · exact ⟨Tryd.f67, Tryd.func67, ok22⟩
  · exact ⟨Tryd.f68, Tryd.func68, ok98⟩
  · exact ⟨Tryd.f69, Tryd.func69, ok97⟩
  · exact ⟨Tryd.f75, Tryd.func75, ok24⟩
  · exact ⟨Tryd.f76, Tryd.func76, ok99⟩
  · exact ⟨Tryd.f77, Tryd.func77, ok100⟩
  · exact ⟨Tryd.f78, Tryd.func78, ok101⟩
  · exact ⟨Tryd.f79, Tryd.func79, ok102⟩
  · exact ⟨Tryd.f80, Tryd.func80, ok103⟩
  · exact ⟨Tryd.f81, Tryd.func81, ok104⟩
  · exact ⟨Tryd.f82, Tryd.func82, ok105⟩
  · exact ⟨Tryd.f83, Tryd.func83, ok106⟩
  · exact ⟨Tryd.f84, Tryd.func84, ok107⟩
  · exact ⟨Tryd.f85, Tryd.func85, ok108⟩
  · exact ⟨Tryd.f86, Tryd.func86, ok109⟩
  · exact ⟨Tryd.f87, Tryd.func87, ok110⟩
  · exact ⟨Tryd.f88, Tryd.func88, ok111⟩
  · exact ⟨Tryd.f89, Tryd.func89, ok112⟩
  · exact ⟨Tryd.f90, Tryd.func90, ok113⟩
  · exact ⟨Tryd.f91, Tryd.func91, ok114⟩
  · exact ⟨Tryd.f92, Tryd.func92, ok115⟩
  · exact ⟨Tryd.f93, Tryd.func93, ok116⟩
theorem tie : Tie Tryd.prog pr link := ⟨by kernel_rfl, tied⟩
end Go.Proofs.YtbjckcenlfgcaabDoor.row
