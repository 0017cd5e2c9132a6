/- The shadow functions of names are the functions of the program. -/
import Derived.Test.YtidigkielipghaaDoorProg
import Derived.Test.YtidigkielipghaaDoorShFcode
import Derived.Test.YtidigkielipghaaDoorShFisa
import Derived.Test.YtidigkielipghaaDoorShFlaw0
import Derived.Test.YtidigkielipghaaDoorShFlaw15
import Derived.Test.YtidigkielipghaaDoorShFmaps
import Derived.Test.YtidigkielipghaaDoorShFnames
import Derived.Test.YtidigkielipghaaDoorShFobject
import Derived.Test.YtidigkielipghaaDoorShFslices
import Derived.Test.YtidigkielipghaaDoorShTabs
import Derived.Test.YtidigkielipghaaDoorShBe
import Derived.Test.YtidigkielipghaaDoorShSnames
import Derived.Lib.Strings
import Derived.Lib.Slices
import Derived.Lib.Walk
import Derived.Lib.BufferWrite
import Derived.Lib.UnsafeStr
import Derived.Lib.Hide
import Derived.Laws.MakeOwn
import Derived.WalkKit
import Derived.KernelRfl
namespace Go.Proofs.YtidigkielipghaaDoor.names
open Go.Sh Go.RowKit
def fns : List (Nat × SFn) := [(318, F318_spindlelaw15_NamesOrders), (322, F322_spindlelaw15_NamesBind), (315, F315_spindlelaw15_awake), (316, F316_spindlelaw15_shuffled), (317, F317_spindlelaw0_CopyObject), (320, F320_names_Merge), (319, F319_spindlelaw0_CopyObjects), (12, F12_spindlelaw0_Num), (321, F321_spindlelaw0_SameTables), (323, F323_spindlelaw15_bound), (324, F324_spindlelaw15_shaped), (325, F325_spindlelaw15_one), (7, F7_spindlelaw0_CopyInsns), (326, F326_spindlelaw0_CopyObjFuncs), (327, F327_spindlelaw0_CopyTables), (328, F328_spindlelaw0_CopyTexts), (329, F329_spindlelaw0_CopyRelocs), (330, F330_object_Check), (331, F331_names_gathered), (332, F332_maps_Keys_map_string_names_known_string_names_known), (334, F334_names_known_twice), (335, F335_names_known_undefined), (336, F336_names_known_shapes), (337, F337_object_many), (338, F338_object_names), (339, F339_object_named), (340, F340_object_cut), (341, F341_object_table), (342, F342_object_insn), (343, F343_object_relocs), (344, F344_names_gathered_1), (347, F347_slices_ContainsFunc_api_TableDef_api_TableDef), (346, F346_names_known_shapes_1), (0, F0_code_Slots), (27, F27_isa_May), (348, F348_object_site), (349, F349_slices_IndexFunc_api_TableDef_api_TableDef), (11, F11_isa_Info), (28, F28_isa_offs), (29, F29_isa_imms), (18, F18_isa_form), (22, F22_slices_Contains_int_int), (24, F24_slices_Index_int_int)]
def prims : List (Nat × (List V → St → Option V)) := [(333, (pSortedS 345))]
def pr : Prog := ⟨fun f => fns.lookup f, tabs, fun f => prims.lookup f⟩
def fnNo : List (Nat × Nat) := [(318, 3), (322, 4), (315, 5), (316, 6), (317, 7), (320, 8), (319, 9), (12, 10), (321, 11), (323, 12), (324, 13), (325, 14), (7, 15), (326, 16), (327, 17), (328, 18), (329, 19), (330, 20), (331, 21), (332, 23), (334, 24), (335, 25), (336, 26), (337, 27), (338, 28), (339, 29), (340, 30), (341, 31), (342, 32), (343, 33), (344, 34), (347, 38), (346, 39), (0, 40), (27, 41), (348, 42), (349, 46), (11, 47), (28, 48), (29, 49), (18, 61), (22, 62), (24, 69), (333, 22), (345, 37)]
def glNo : List (Nat × Nat) := [(0, 1), (1, 2), (2, 3), (3, 4), (4, 0)]
def tyNo : List (Nat × Nat) := []
def link : Link := ⟨fun t => (tyNo.lookup t).getD 0, fun f => (fnNo.lookup f).getD 0, fun g => (glNo.lookup g).getD 0, fun _ => True⟩
theorem ok318 : okFn Tryd.prog pr link Tryd.f3 F318_spindlelaw15_NamesOrders = true := by kernel_rfl
theorem ok322 : okFn Tryd.prog pr link Tryd.f4 F322_spindlelaw15_NamesBind = true := by kernel_rfl
theorem ok315 : okFn Tryd.prog pr link Tryd.f5 F315_spindlelaw15_awake = true := by kernel_rfl
theorem ok316 : okFn Tryd.prog pr link Tryd.f6 F316_spindlelaw15_shuffled = true := by kernel_rfl
theorem ok317 : okFn Tryd.prog pr link Tryd.f7 F317_spindlelaw0_CopyObject = true := by kernel_rfl
theorem ok320 : okFn Tryd.prog pr link Tryd.f8 F320_names_Merge = true := by kernel_rfl
theorem ok319 : okFn Tryd.prog pr link Tryd.f9 F319_spindlelaw0_CopyObjects = true := by kernel_rfl
theorem ok12 : okFn Tryd.prog pr link Tryd.f10 F12_spindlelaw0_Num = true := by kernel_rfl
theorem ok321 : okFn Tryd.prog pr link Tryd.f11 F321_spindlelaw0_SameTables = true := by kernel_rfl
theorem ok323 : okFn Tryd.prog pr link Tryd.f12 F323_spindlelaw15_bound = true := by kernel_rfl
theorem ok324 : okFn Tryd.prog pr link Tryd.f13 F324_spindlelaw15_shaped = true := by kernel_rfl
theorem ok325 : okFn Tryd.prog pr link Tryd.f14 F325_spindlelaw15_one = true := by kernel_rfl
theorem ok7 : okFn Tryd.prog pr link Tryd.f15 F7_spindlelaw0_CopyInsns = true := by kernel_rfl
theorem ok326 : okFn Tryd.prog pr link Tryd.f16 F326_spindlelaw0_CopyObjFuncs = true := by kernel_rfl
theorem ok327 : okFn Tryd.prog pr link Tryd.f17 F327_spindlelaw0_CopyTables = true := by kernel_rfl
theorem ok328 : okFn Tryd.prog pr link Tryd.f18 F328_spindlelaw0_CopyTexts = true := by kernel_rfl
theorem ok329 : okFn Tryd.prog pr link Tryd.f19 F329_spindlelaw0_CopyRelocs = true := by kernel_rfl
theorem ok330 : okFn Tryd.prog pr link Tryd.f20 F330_object_Check = true := by kernel_rfl
theorem ok331 : okFn Tryd.prog pr link Tryd.f21 F331_names_gathered = true := by kernel_rfl
theorem ok332 : okFn Tryd.prog pr link Tryd.f23 F332_maps_Keys_map_string_names_known_string_names_known = true := by kernel_rfl
theorem ok334 : okFn Tryd.prog pr link Tryd.f24 F334_names_known_twice = true := by kernel_rfl
theorem ok335 : okFn Tryd.prog pr link Tryd.f25 F335_names_known_undefined = true := by kernel_rfl
theorem ok336 : okFn Tryd.prog pr link Tryd.f26 F336_names_known_shapes = true := by kernel_rfl
theorem ok337 : okFn Tryd.prog pr link Tryd.f27 F337_object_many = true := by kernel_rfl
theorem ok338 : okFn Tryd.prog pr link Tryd.f28 F338_object_names = true := by kernel_rfl
theorem ok339 : okFn Tryd.prog pr link Tryd.f29 F339_object_named = true := by kernel_rfl
theorem ok340 : okFn Tryd.prog pr link Tryd.f30 F340_object_cut = true := by kernel_rfl
theorem ok341 : okFn Tryd.prog pr link Tryd.f31 F341_object_table = true := by kernel_rfl
theorem ok342 : okFn Tryd.prog pr link Tryd.f32 F342_object_insn = true := by kernel_rfl
theorem ok343 : okFn Tryd.prog pr link Tryd.f33 F343_object_relocs = true := by kernel_rfl
theorem ok344 : okFn Tryd.prog pr link Tryd.f34 F344_names_gathered_1 = true := by kernel_rfl
theorem ok347 : okFn Tryd.prog pr link Tryd.f38 F347_slices_ContainsFunc_api_TableDef_api_TableDef = true := by kernel_rfl
theorem ok346 : okFn Tryd.prog pr link Tryd.f39 F346_names_known_shapes_1 = true := by kernel_rfl
theorem ok0 : okFn Tryd.prog pr link Tryd.f40 F0_code_Slots = true := by kernel_rfl
theorem ok27 : okFn Tryd.prog pr link Tryd.f41 F27_isa_May = true := by kernel_rfl
theorem ok348 : okFn Tryd.prog pr link Tryd.f42 F348_object_site = true := by kernel_rfl
theorem ok349 : okFn Tryd.prog pr link Tryd.f46 F349_slices_IndexFunc_api_TableDef_api_TableDef = true := by kernel_rfl
theorem ok11 : okFn Tryd.prog pr link Tryd.f47 F11_isa_Info = true := by kernel_rfl
theorem ok28 : okFn Tryd.prog pr link Tryd.f48 F28_isa_offs = true := by kernel_rfl
theorem ok29 : okFn Tryd.prog pr link Tryd.f49 F29_isa_imms = true := by kernel_rfl
theorem ok18 : okFn Tryd.prog pr link Tryd.f61 F18_isa_form = true := by kernel_rfl
theorem ok22 : okFn Tryd.prog pr link Tryd.f62 F22_slices_Contains_int_int = true := by kernel_rfl
theorem ok24 : okFn Tryd.prog pr link Tryd.f69 F24_slices_Index_int_int = true := by kernel_rfl
theorem prim333 : PrimOk Tryd.prog pr link 333 (pSortedS 345) := primOk_sortedS (kt := 9) Tryd.underlying9 fun blk mb nn D0 w h1 h2 h3 h4 h5 => Tryd.sortedKeys blk mb nn D0 anyR w h1 h2 h3 h4 h5
theorem fns_ok (x : Nat × SFn) (hx : x ∈ fns) : ∃ fn, Tryd.prog.funcs[link.fn x.1]? = some fn ∧ okFn Tryd.prog pr link fn x.2 = true := by
  simp only [fns, List.mem_cons, List.not_mem_nil, or_false] at hx
  rcases hx with rfl | rfl | rfl | rfl | rfl | rfl | rfl | rfl | rfl | rfl | rfl | rfl | rfl | rfl | rfl | rfl | rfl | rfl | rfl | rfl | rfl | rfl | rfl | rfl | rfl | rfl | rfl | rfl | rfl | rfl | rfl | rfl | rfl | rfl | rfl | rfl | rfl | rfl | rfl | rfl | rfl | rfl | rfl
  · exact ⟨Tryd.f3, Tryd.func3, ok318⟩
  · exact ⟨Tryd.f4, Tryd.func4, ok322⟩
  · exact ⟨Tryd.f5, Tryd.func5, ok315⟩
  · exact ⟨Tryd.f6, Tryd.func6, ok316⟩
  · exact ⟨Tryd.f7, Tryd.func7, ok317⟩
  · exact ⟨Tryd.f8, Tryd.func8, ok320⟩
  · exact ⟨Tryd.f9, Tryd.func9, ok319⟩
  · exact ⟨Tryd.f10, Tryd.func10, ok12⟩
  · exact ⟨Tryd.f11, Tryd.func11, ok321⟩
  · exact ⟨Tryd.f12, Tryd.func12, ok323⟩
  · exact ⟨Tryd.f13, Tryd.func13, ok324⟩
  · exact ⟨Tryd.f14, Tryd.func14, ok325⟩
  · exact ⟨Tryd.f15, Tryd.func15, ok7⟩
  · exact ⟨Tryd.f16, Tryd.func16, ok326⟩
  · exact ⟨Tryd.f17, Tryd.func17, ok327⟩
  · exact ⟨Tryd.f18, Tryd.func18, ok328⟩
  · exact ⟨Tryd.f19, Tryd.func19, ok329⟩
  · exact ⟨Tryd.f20, Tryd.func20, ok330⟩
  · exact ⟨Tryd.f21, Tryd.func21, ok331⟩
  · exact ⟨Tryd.f23, Tryd.func23, ok332⟩
  · exact ⟨Tryd.f24, Tryd.func24, ok334⟩
  · exact ⟨Tryd.f25, Tryd.func25, ok335⟩
  · exact ⟨Tryd.f26, Tryd.func26, ok336⟩
  · exact ⟨Tryd.f27, Tryd.func27, ok337⟩
  · exact ⟨Tryd.f28, Tryd.func28, ok338⟩
  · exact ⟨Tryd.f29, Tryd.func29, ok339⟩
  · exact ⟨Tryd.f30, Tryd.func30, ok340⟩
  · exact ⟨Tryd.f31, Tryd.func31, ok341⟩
  · exact ⟨Tryd.f32, Tryd.func32, ok342⟩
  · exact ⟨Tryd.f33, Tryd.func33, ok343⟩
  · exact ⟨Tryd.f34, Tryd.func34, ok344⟩
  · exact ⟨Tryd.f38, Tryd.func38, ok347⟩
  · exact ⟨Tryd.f39, Tryd.func39, ok346⟩
  · exact ⟨Tryd.f40, Tryd.func40, ok0⟩
  · exact ⟨Tryd.f41, Tryd.func41, ok27⟩
  · exact ⟨Tryd.f42, Tryd.func42, ok348⟩
  · exact ⟨Tryd.f46, Tryd.func46, ok349⟩
  · exact ⟨Tryd.f47, Tryd.func47, ok11⟩
  · exact ⟨Tryd.f48, Tryd.func48, ok28⟩
  · exact ⟨Tryd.f49, Tryd.func49, ok29⟩
  · exact ⟨Tryd.f61, Tryd.func61, ok18⟩
  · exact ⟨Tryd.f62, Tryd.func62, ok22⟩
  · exact ⟨Tryd.f69, Tryd.func69, ok24⟩
theorem prims_ok (x : Nat × (List V → St → Option V)) (hx : x ∈ prims) : PrimOk Tryd.prog pr link x.1 x.2 := by
  simp only [prims, List.mem_cons, List.not_mem_nil, or_false] at hx
  rcases hx with rfl
  · exact prim333
theorem tied : Tied Tryd.prog pr link := tied_of2 (fns := fns) (prims := prims) (fun _ => rfl) (fun _ => rfl) fns_ok prims_ok
theorem tie : Tie Tryd.prog pr link := ⟨by kernel_rfl, tied⟩
end Go.Proofs.YtidigkielipghaaDoor.names
