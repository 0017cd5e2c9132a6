/- The shadow functions of isaOwns are the functions of the program. -/
import Derived.Test.YtnemobbnlacmjaaDoorProg
import Derived.Test.YtnemobbnlacmjaaDoorShFbits
import Derived.Test.YtnemobbnlacmjaaDoorShFcmp
import Derived.Test.YtnemobbnlacmjaaDoorShFisa
import Derived.Test.YtnemobbnlacmjaaDoorShFlaw0
import Derived.Test.YtnemobbnlacmjaaDoorShFlaw2
import Derived.Test.YtnemobbnlacmjaaDoorShFref2
import Derived.Test.YtnemobbnlacmjaaDoorShFslices
import Derived.Test.YtnemobbnlacmjaaDoorShTabs
import Derived.Test.YtnemobbnlacmjaaDoorShBe
import Derived.KernelRfl
namespace Go.Proofs.YtnemobbnlacmjaaDoor.isaOwns
open Go.Sh
def fns : List (Nat × SFn) := [(227, F227_spindlelaw2_IsaOwns), (236, F236_isa_Writes_row), (237, F237_isa_Reads_row), (16, F16_spindlelaw0_SameInts), (86, F86_spindleref2_Writes), (87, F87_spindleref2_Reads), (226, F226_spindlelaw0_Nums_Own), (238, F238_isa_Ops_row), (15, F15_spindleref2_Ops), (228, F228_spindlelaw0_Nums_Holds), (25, F25_spindlelaw2_awake), (27, F27_isa_May), (18, F18_isa_form), (239, F239_isa_run_row), (11, F11_isa_Info), (92, F92_slices_Sort_int_int), (93, F93_slices_Compact_int_int), (65, F65_spindleref2_May), (17, F17_spindleref2_Rows), (94, F94_spindleref2_upTo), (95, F95_spindleref2_called), (96, F96_spindleref2_rising), (229, F229_spindlelaw0_CopyInts), (230, F230_spindlelaw0_Nums_write), (231, F231_spindlelaw0_Nums_untouched), (232, F232_spindlelaw0_Nums_same), (28, F28_isa_offs), (29, F29_isa_imms), (22, F22_slices_Contains_int_int), (98, F98_slices_pdqsortOrdered_int), (97, F97_math_bits_Len), (67, F67_spindleref2_fits), (19, F19_spindleref2_arithmetic), (20, F20_spindleref2_jumps), (21, F21_spindleref2_moves), (233, F233_spindlelaw0_markedInts), (235, F235_spindlelaw0_markedInts_own), (234, F234_spindlelaw0_Nums_keep), (24, F24_slices_Index_int_int), (99, F99_slices_insertionSortOrdered_int), (100, F100_slices_heapSortOrdered_int), (101, F101_slices_breakPatternsOrdered_int), (102, F102_slices_choosePivotOrdered_int), (103, F103_slices_reverseRangeOrdered_int), (104, F104_slices_partialInsertionSortOrdered_int), (105, F105_cmp_Less_int), (106, F106_slices_partitionEqualOrdered_int), (107, F107_slices_partitionOrdered_int), (108, F108_math_bits_Len32), (109, F109_math_bits_Len64), (23, F23_spindleref2_has), (68, F68_spindleref2_register), (110, F110_slices_siftDownOrdered_int), (111, F111_slices_nextPowerOfTwo), (112, F112_slices_xorshift_Next), (113, F113_slices_medianAdjacentOrdered_int), (114, F114_slices_medianOrdered_int), (115, F115_cmp_isNaN_int), (116, F116_slices_order2Ordered_int), (91, F91_isa_run), (82, F82_isa_Writes), (83, F83_isa_Reads)]
def pr : Prog := ⟨fun f => fns.lookup f, tabs, fun _ => none⟩
def fnNo : List (Nat × Nat) := [(227, 4), (236, 14), (237, 15), (16, 16), (86, 17), (87, 18), (226, 19), (238, 20), (15, 21), (228, 22), (25, 23), (27, 33), (18, 34), (239, 35), (11, 36), (92, 37), (93, 38), (65, 39), (17, 40), (94, 41), (95, 42), (96, 43), (229, 44), (230, 45), (231, 46), (232, 47), (28, 56), (29, 57), (22, 58), (98, 59), (97, 60), (67, 61), (19, 62), (20, 63), (21, 64), (233, 65), (235, 65), (234, 66), (24, 68), (99, 69), (100, 70), (101, 71), (102, 72), (103, 73), (104, 74), (105, 75), (106, 76), (107, 77), (108, 78), (109, 79), (23, 80), (68, 81), (110, 82), (111, 83), (112, 84), (113, 85), (114, 86), (115, 87), (116, 88), (91, 35), (82, 14), (83, 15)]
def glNo : List (Nat × Nat) := [(0, 0), (1, 1), (2, 2), (3, 3), (4, 4)]
def tyNo : List (Nat × Nat) := []
def link : Link := ⟨fun t => (tyNo.lookup t).getD 0, fun f => (fnNo.lookup f).getD 0, fun g => (glNo.lookup g).getD 0⟩
theorem ok227 : okFn Tryd.prog pr link Tryd.f4 F227_spindlelaw2_IsaOwns = true := by kernel_rfl
theorem ok236 : okFn Tryd.prog pr link Tryd.f14 F236_isa_Writes_row = true := by kernel_rfl
theorem ok237 : okFn Tryd.prog pr link Tryd.f15 F237_isa_Reads_row = true := by kernel_rfl
theorem ok16 : okFn Tryd.prog pr link Tryd.f16 F16_spindlelaw0_SameInts = true := by kernel_rfl
theorem ok86 : okFn Tryd.prog pr link Tryd.f17 F86_spindleref2_Writes = true := by kernel_rfl
theorem ok87 : okFn Tryd.prog pr link Tryd.f18 F87_spindleref2_Reads = true := by kernel_rfl
theorem ok226 : okFn Tryd.prog pr link Tryd.f19 F226_spindlelaw0_Nums_Own = true := by kernel_rfl
theorem ok238 : okFn Tryd.prog pr link Tryd.f20 F238_isa_Ops_row = true := by kernel_rfl
theorem ok15 : okFn Tryd.prog pr link Tryd.f21 F15_spindleref2_Ops = true := by kernel_rfl
theorem ok228 : okFn Tryd.prog pr link Tryd.f22 F228_spindlelaw0_Nums_Holds = true := by kernel_rfl
theorem ok25 : okFn Tryd.prog pr link Tryd.f23 F25_spindlelaw2_awake = true := by kernel_rfl
theorem ok27 : okFn Tryd.prog pr link Tryd.f33 F27_isa_May = true := by kernel_rfl
theorem ok18 : okFn Tryd.prog pr link Tryd.f34 F18_isa_form = true := by kernel_rfl
theorem ok239 : okFn Tryd.prog pr link Tryd.f35 F239_isa_run_row = true := by kernel_rfl
theorem ok11 : okFn Tryd.prog pr link Tryd.f36 F11_isa_Info = true := by kernel_rfl
theorem ok92 : okFn Tryd.prog pr link Tryd.f37 F92_slices_Sort_int_int = true := by kernel_rfl
theorem ok93 : okFn Tryd.prog pr link Tryd.f38 F93_slices_Compact_int_int = true := by kernel_rfl
theorem ok65 : okFn Tryd.prog pr link Tryd.f39 F65_spindleref2_May = true := by kernel_rfl
theorem ok17 : okFn Tryd.prog pr link Tryd.f40 F17_spindleref2_Rows = true := by kernel_rfl
theorem ok94 : okFn Tryd.prog pr link Tryd.f41 F94_spindleref2_upTo = true := by kernel_rfl
theorem ok95 : okFn Tryd.prog pr link Tryd.f42 F95_spindleref2_called = true := by kernel_rfl
theorem ok96 : okFn Tryd.prog pr link Tryd.f43 F96_spindleref2_rising = true := by kernel_rfl
theorem ok229 : okFn Tryd.prog pr link Tryd.f44 F229_spindlelaw0_CopyInts = true := by kernel_rfl
theorem ok230 : okFn Tryd.prog pr link Tryd.f45 F230_spindlelaw0_Nums_write = true := by kernel_rfl
theorem ok231 : okFn Tryd.prog pr link Tryd.f46 F231_spindlelaw0_Nums_untouched = true := by kernel_rfl
theorem ok232 : okFn Tryd.prog pr link Tryd.f47 F232_spindlelaw0_Nums_same = true := by kernel_rfl
theorem ok28 : okFn Tryd.prog pr link Tryd.f56 F28_isa_offs = true := by kernel_rfl
theorem ok29 : okFn Tryd.prog pr link Tryd.f57 F29_isa_imms = true := by kernel_rfl
theorem ok22 : okFn Tryd.prog pr link Tryd.f58 F22_slices_Contains_int_int = true := by kernel_rfl
theorem ok98 : okFn Tryd.prog pr link Tryd.f59 F98_slices_pdqsortOrdered_int = true := by kernel_rfl
theorem ok97 : okFn Tryd.prog pr link Tryd.f60 F97_math_bits_Len = true := by kernel_rfl
theorem ok67 : okFn Tryd.prog pr link Tryd.f61 F67_spindleref2_fits = true := by kernel_rfl
theorem ok19 : okFn Tryd.prog pr link Tryd.f62 F19_spindleref2_arithmetic = true := by kernel_rfl
theorem ok20 : okFn Tryd.prog pr link Tryd.f63 F20_spindleref2_jumps = true := by kernel_rfl
theorem ok21 : okFn Tryd.prog pr link Tryd.f64 F21_spindleref2_moves = true := by kernel_rfl
theorem ok233 : okFn Tryd.prog pr link Tryd.f65 F233_spindlelaw0_markedInts = true := by kernel_rfl
theorem ok235 : okFn Tryd.prog pr link Tryd.f65 F235_spindlelaw0_markedInts_own = true := by kernel_rfl
theorem ok234 : okFn Tryd.prog pr link Tryd.f66 F234_spindlelaw0_Nums_keep = true := by kernel_rfl
theorem ok24 : okFn Tryd.prog pr link Tryd.f68 F24_slices_Index_int_int = true := by kernel_rfl
theorem ok99 : okFn Tryd.prog pr link Tryd.f69 F99_slices_insertionSortOrdered_int = true := by kernel_rfl
theorem ok100 : okFn Tryd.prog pr link Tryd.f70 F100_slices_heapSortOrdered_int = true := by kernel_rfl
theorem ok101 : okFn Tryd.prog pr link Tryd.f71 F101_slices_breakPatternsOrdered_int = true := by kernel_rfl
theorem ok102 : okFn Tryd.prog pr link Tryd.f72 F102_slices_choosePivotOrdered_int = true := by kernel_rfl
theorem ok103 : okFn Tryd.prog pr link Tryd.f73 F103_slices_reverseRangeOrdered_int = true := by kernel_rfl
theorem ok104 : okFn Tryd.prog pr link Tryd.f74 F104_slices_partialInsertionSortOrdered_int = true := by kernel_rfl
theorem ok105 : okFn Tryd.prog pr link Tryd.f75 F105_cmp_Less_int = true := by kernel_rfl
theorem ok106 : okFn Tryd.prog pr link Tryd.f76 F106_slices_partitionEqualOrdered_int = true := by kernel_rfl
theorem ok107 : okFn Tryd.prog pr link Tryd.f77 F107_slices_partitionOrdered_int = true := by kernel_rfl
theorem ok108 : okFn Tryd.prog pr link Tryd.f78 F108_math_bits_Len32 = true := by kernel_rfl
theorem ok109 : okFn Tryd.prog pr link Tryd.f79 F109_math_bits_Len64 = true := by kernel_rfl
theorem ok23 : okFn Tryd.prog pr link Tryd.f80 F23_spindleref2_has = true := by kernel_rfl
theorem ok68 : okFn Tryd.prog pr link Tryd.f81 F68_spindleref2_register = true := by kernel_rfl
theorem ok110 : okFn Tryd.prog pr link Tryd.f82 F110_slices_siftDownOrdered_int = true := by kernel_rfl
theorem ok111 : okFn Tryd.prog pr link Tryd.f83 F111_slices_nextPowerOfTwo = true := by kernel_rfl
theorem ok112 : okFn Tryd.prog pr link Tryd.f84 F112_slices_xorshift_Next = true := by kernel_rfl
theorem ok113 : okFn Tryd.prog pr link Tryd.f85 F113_slices_medianAdjacentOrdered_int = true := by kernel_rfl
theorem ok114 : okFn Tryd.prog pr link Tryd.f86 F114_slices_medianOrdered_int = true := by kernel_rfl
theorem ok115 : okFn Tryd.prog pr link Tryd.f87 F115_cmp_isNaN_int = true := by kernel_rfl
theorem ok116 : okFn Tryd.prog pr link Tryd.f88 F116_slices_order2Ordered_int = true := by kernel_rfl
theorem ok91 : okFn Tryd.prog pr link Tryd.f35 F91_isa_run = true := by kernel_rfl
theorem ok82 : okFn Tryd.prog pr link Tryd.f14 F82_isa_Writes = true := by kernel_rfl
theorem ok83 : okFn Tryd.prog pr link Tryd.f15 F83_isa_Reads = true := by kernel_rfl
theorem tied : Tied Tryd.prog pr link := tied_of (fns := fns) (fun _ => rfl) fun x hx => by
  simp only [fns, List.mem_cons, List.not_mem_nil, or_false] at hx
  rcases hx with rfl | rfl | rfl | rfl | rfl | rfl | rfl | rfl | rfl | rfl | rfl | rfl | rfl | rfl | rfl | rfl | rfl | rfl | rfl | rfl | rfl | rfl | rfl | rfl | rfl | rfl | rfl | rfl | rfl | rfl | rfl | rfl | rfl | rfl | rfl | rfl | rfl | rfl | rfl | rfl | rfl | rfl | rfl | rfl | rfl | rfl | rfl | rfl | rfl | rfl | rfl | rfl | rfl | rfl | rfl | rfl | rfl | rfl | rfl | rfl | rfl | rfl
  · exact ⟨Tryd.f4, Tryd.func4, ok227⟩
  · exact ⟨Tryd.f14, Tryd.func14, ok236⟩
  · exact ⟨Tryd.f15, Tryd.func15, ok237⟩
  · exact ⟨Tryd.f16, Tryd.func16, ok16⟩
  · exact ⟨Tryd.f17, Tryd.func17, ok86⟩
  · exact ⟨Tryd.f18, Tryd.func18, ok87⟩
  · exact ⟨Tryd.f19, Tryd.func19, ok226⟩
  · exact ⟨Tryd.f20, Tryd.func20, ok238⟩
  · exact ⟨Tryd.f21, Tryd.func21, ok15⟩
  · exact ⟨Tryd.f22, Tryd.func22, ok228⟩
  · exact ⟨Tryd.f23, Tryd.func23, ok25⟩
  · exact ⟨Tryd.f33, Tryd.func33, ok27⟩
  · exact ⟨Tryd.f34, Tryd.func34, ok18⟩
  · exact ⟨Tryd.f35, Tryd.func35, ok239⟩
  · exact ⟨Tryd.f36, Tryd.func36, ok11⟩
  · exact ⟨Tryd.f37, Tryd.func37, ok92⟩
  · exact ⟨Tryd.f38, Tryd.func38, ok93⟩
  · exact ⟨Tryd.f39, Tryd.func39, ok65⟩
  · exact ⟨Tryd.f40, Tryd.func40, ok17⟩
  · exact ⟨Tryd.f41, Tryd.func41, ok94⟩
  · exact ⟨Tryd.f42, Tryd.func42, ok95⟩
  · exact ⟨Tryd.f43, Tryd.func43, ok96⟩
  · exact ⟨Tryd.f44, Tryd.func44, ok229⟩
  · exact ⟨Tryd.f45, Tryd.func45, ok230⟩
  · exact ⟨Tryd.f46, Tryd.func46, ok231⟩
  · exact ⟨Tryd.f47, Tryd.func47, ok232⟩
  · exact ⟨Tryd.f56, Tryd.func56, ok28⟩
  · exact ⟨Tryd.f57, Tryd.func57, ok29⟩
  · exact ⟨Tryd.f58, Tryd.func58, ok22⟩
  · exact ⟨Tryd.f59, Tryd.func59, ok98⟩
  · exact ⟨Tryd.f60, Tryd.func60, ok97⟩
  · exact ⟨Tryd.f61, Tryd.func61, ok67⟩
  · exact ⟨Tryd.f62, Tryd.func62, ok19⟩
  · exact ⟨Tryd.f63, Tryd.func63, ok20⟩
  · exact ⟨Tryd.f64, Tryd.func64, ok21⟩
  · exact ⟨Tryd.f65, Tryd.func65, ok233⟩
  · exact ⟨Tryd.f65, Tryd.func65, ok235⟩
  · exact ⟨Tryd.f66, Tryd.func66, ok234⟩
  · exact ⟨Tryd.f68, Tryd.func68, ok24⟩
  · exact ⟨Tryd.f69, Tryd.func69, ok99⟩
  · exact ⟨Tryd.f70, Tryd.func70, ok100⟩
  · exact ⟨Tryd.f71, Tryd.func71, ok101⟩
  · exact ⟨Tryd.f72, Tryd.func72, ok102⟩
  · exact ⟨Tryd.f73, Tryd.func73, ok103⟩
  · exact ⟨Tryd.f74, Tryd.func74, ok104⟩
  · exact ⟨Tryd.f75, Tryd.func75, ok105⟩
  · exact ⟨Tryd.f76, Tryd.func76, ok106⟩
  · exact ⟨Tryd.f77, Tryd.func77, ok107⟩
  · exact ⟨Tryd.f78, Tryd.func78, ok108⟩
  · exact ⟨Tryd.f79, Tryd.func79, ok109⟩
  · exact ⟨Tryd.f80, Tryd.func80, ok23⟩
  · exact ⟨Tryd.f81, Tryd.func81, ok68⟩
  · exact ⟨Tryd.f82, Tryd.func82, ok110⟩
  · exact ⟨Tryd.f83, Tryd.func83, ok111⟩
  · exact ⟨Tryd.f84, Tryd.func84, ok112⟩
  · exact ⟨Tryd.f85, Tryd.func85, ok113⟩
  · exact ⟨Tryd.f86, Tryd.func86, ok114⟩
  · exact ⟨Tryd.f87, Tryd.func87, ok115⟩
  · exact ⟨Tryd.f88, Tryd.func88, ok116⟩
  · exact ⟨Tryd.f35, Tryd.func35, ok91⟩
  · exact ⟨Tryd.f14, Tryd.func14, ok82⟩
  · exact ⟨Tryd.f15, Tryd.func15, ok83⟩
theorem tie : Tie Tryd.prog pr link := ⟨by kernel_rfl, tied⟩
end Go.Proofs.YtnemobbnlacmjaaDoor.isaOwns
