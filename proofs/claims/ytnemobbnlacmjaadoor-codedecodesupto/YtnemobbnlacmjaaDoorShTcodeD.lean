/- The shadow functions of codeD are the functions of the program. -/
import Derived.Test.YtnemobbnlacmjaaDoorProg
import Derived.Test.YtnemobbnlacmjaaDoorShFcode
import Derived.Test.YtnemobbnlacmjaaDoorShFisa
import Derived.Test.YtnemobbnlacmjaaDoorShFlaw0
import Derived.Test.YtnemobbnlacmjaaDoorShFlaw3
import Derived.Test.YtnemobbnlacmjaaDoorShFref2
import Derived.Test.YtnemobbnlacmjaaDoorShFref3
import Derived.Test.YtnemobbnlacmjaaDoorShFslices
import Derived.Test.YtnemobbnlacmjaaDoorShTabs
import Derived.Test.YtnemobbnlacmjaaDoorShBe
import Derived.KernelRfl
namespace Go.Proofs.YtnemobbnlacmjaaDoor.codeD
open Go.Sh
def fns : List (Nat × SFn) := [(215, F215_spindlelaw3_CodeDecodes), (69, F69_spindlelaw3_awake), (212, F212_spindlelaw3_TurnedBytes), (213, F213_spindleref3_Decode), (169, F169_spindlelaw0_Lender_Lend), (72, F72_code_Decode), (12, F12_spindlelaw0_Num), (9, F9_spindlelaw0_SameInsns), (170, F170_spindlelaw0_Lender_Back), (214, F214_spindlelaw3_Shelf_Own), (70, F70_code_Encode), (225, F225_spindlelaw0_CopyBytes_row), (216, F216_spindleref3_One), (174, F174_spindlelaw0_Lender_mark), (77, F77_code_first), (7, F7_spindlelaw0_CopyInsns), (217, F217_spindlelaw3_Shelf_untouched), (218, F218_spindlelaw3_Shelf_write), (219, F219_spindlelaw3_Shelf_Holds), (27, F27_isa_May), (0, F0_code_Slots), (76, F76_code_laid), (65, F65_spindleref2_May), (8, F8_spindleref3_wide), (220, F220_spindleref3_value), (79, F79_code_take), (224, F224_spindlelaw0_CopyInsns_row), (221, F221_spindlelaw3_Shelf_some), (222, F222_spindlelaw3_Shelf_keep), (223, F223_spindlelaw3_Shelf_kept), (11, F11_isa_Info), (28, F28_isa_offs), (29, F29_isa_imms), (78, F78_code_put), (17, F17_spindleref2_Rows), (67, F67_spindleref2_fits), (18, F18_isa_form), (22, F22_slices_Contains_int_int), (19, F19_spindleref2_arithmetic), (20, F20_spindleref2_jumps), (21, F21_spindleref2_moves), (23, F23_spindleref2_has), (68, F68_spindleref2_register), (24, F24_slices_Index_int_int)]
def pr : Prog := ⟨fun f => fns.lookup f, tabs, fun _ => none⟩
def fnNo : List (Nat × Nat) := [(215, 3), (69, 5), (212, 6), (213, 7), (169, 8), (72, 9), (12, 10), (9, 11), (170, 12), (214, 13), (70, 24), (225, 25), (216, 26), (174, 27), (77, 28), (7, 29), (217, 30), (218, 31), (219, 32), (27, 33), (0, 48), (76, 49), (65, 39), (8, 50), (220, 51), (79, 52), (224, 29), (221, 53), (222, 54), (223, 55), (11, 36), (28, 56), (29, 57), (78, 67), (17, 40), (67, 61), (18, 34), (22, 58), (19, 62), (20, 63), (21, 64), (23, 80), (68, 81), (24, 68)]
def glNo : List (Nat × Nat) := [(0, 0), (1, 1), (2, 2), (3, 3), (4, 4)]
def tyNo : List (Nat × Nat) := []
def link : Link := ⟨fun t => (tyNo.lookup t).getD 0, fun f => (fnNo.lookup f).getD 0, fun g => (glNo.lookup g).getD 0⟩
theorem ok215 : okFn Tryd.prog pr link Tryd.f3 F215_spindlelaw3_CodeDecodes = true := by kernel_rfl
theorem ok69 : okFn Tryd.prog pr link Tryd.f5 F69_spindlelaw3_awake = true := by kernel_rfl
theorem ok212 : okFn Tryd.prog pr link Tryd.f6 F212_spindlelaw3_TurnedBytes = true := by kernel_rfl
theorem ok213 : okFn Tryd.prog pr link Tryd.f7 F213_spindleref3_Decode = true := by kernel_rfl
theorem ok169 : okFn Tryd.prog pr link Tryd.f8 F169_spindlelaw0_Lender_Lend = true := by kernel_rfl
theorem ok72 : okFn Tryd.prog pr link Tryd.f9 F72_code_Decode = true := by kernel_rfl
theorem ok12 : okFn Tryd.prog pr link Tryd.f10 F12_spindlelaw0_Num = true := by kernel_rfl
theorem ok9 : okFn Tryd.prog pr link Tryd.f11 F9_spindlelaw0_SameInsns = true := by kernel_rfl
theorem ok170 : okFn Tryd.prog pr link Tryd.f12 F170_spindlelaw0_Lender_Back = true := by kernel_rfl
theorem ok214 : okFn Tryd.prog pr link Tryd.f13 F214_spindlelaw3_Shelf_Own = true := by kernel_rfl
theorem ok70 : okFn Tryd.prog pr link Tryd.f24 F70_code_Encode = true := by kernel_rfl
theorem ok225 : okFn Tryd.prog pr link Tryd.f25 F225_spindlelaw0_CopyBytes_row = true := by kernel_rfl
theorem ok216 : okFn Tryd.prog pr link Tryd.f26 F216_spindleref3_One = true := by kernel_rfl
theorem ok174 : okFn Tryd.prog pr link Tryd.f27 F174_spindlelaw0_Lender_mark = true := by kernel_rfl
theorem ok77 : okFn Tryd.prog pr link Tryd.f28 F77_code_first = true := by kernel_rfl
theorem ok7 : okFn Tryd.prog pr link Tryd.f29 F7_spindlelaw0_CopyInsns = true := by kernel_rfl
theorem ok217 : okFn Tryd.prog pr link Tryd.f30 F217_spindlelaw3_Shelf_untouched = true := by kernel_rfl
theorem ok218 : okFn Tryd.prog pr link Tryd.f31 F218_spindlelaw3_Shelf_write = true := by kernel_rfl
theorem ok219 : okFn Tryd.prog pr link Tryd.f32 F219_spindlelaw3_Shelf_Holds = true := by kernel_rfl
theorem ok27 : okFn Tryd.prog pr link Tryd.f33 F27_isa_May = true := by kernel_rfl
theorem ok0 : okFn Tryd.prog pr link Tryd.f48 F0_code_Slots = true := by kernel_rfl
theorem ok76 : okFn Tryd.prog pr link Tryd.f49 F76_code_laid = true := by kernel_rfl
theorem ok65 : okFn Tryd.prog pr link Tryd.f39 F65_spindleref2_May = true := by kernel_rfl
theorem ok8 : okFn Tryd.prog pr link Tryd.f50 F8_spindleref3_wide = true := by kernel_rfl
theorem ok220 : okFn Tryd.prog pr link Tryd.f51 F220_spindleref3_value = true := by kernel_rfl
theorem ok79 : okFn Tryd.prog pr link Tryd.f52 F79_code_take = true := by kernel_rfl
theorem ok224 : okFn Tryd.prog pr link Tryd.f29 F224_spindlelaw0_CopyInsns_row = true := by kernel_rfl
theorem ok221 : okFn Tryd.prog pr link Tryd.f53 F221_spindlelaw3_Shelf_some = true := by kernel_rfl
theorem ok222 : okFn Tryd.prog pr link Tryd.f54 F222_spindlelaw3_Shelf_keep = true := by kernel_rfl
theorem ok223 : okFn Tryd.prog pr link Tryd.f55 F223_spindlelaw3_Shelf_kept = true := by kernel_rfl
theorem ok11 : okFn Tryd.prog pr link Tryd.f36 F11_isa_Info = true := by kernel_rfl
theorem ok28 : okFn Tryd.prog pr link Tryd.f56 F28_isa_offs = true := by kernel_rfl
theorem ok29 : okFn Tryd.prog pr link Tryd.f57 F29_isa_imms = true := by kernel_rfl
theorem ok78 : okFn Tryd.prog pr link Tryd.f67 F78_code_put = true := by kernel_rfl
theorem ok17 : okFn Tryd.prog pr link Tryd.f40 F17_spindleref2_Rows = true := by kernel_rfl
theorem ok67 : okFn Tryd.prog pr link Tryd.f61 F67_spindleref2_fits = true := by kernel_rfl
theorem ok18 : okFn Tryd.prog pr link Tryd.f34 F18_isa_form = true := by kernel_rfl
theorem ok22 : okFn Tryd.prog pr link Tryd.f58 F22_slices_Contains_int_int = true := by kernel_rfl
theorem ok19 : okFn Tryd.prog pr link Tryd.f62 F19_spindleref2_arithmetic = true := by kernel_rfl
theorem ok20 : okFn Tryd.prog pr link Tryd.f63 F20_spindleref2_jumps = true := by kernel_rfl
theorem ok21 : okFn Tryd.prog pr link Tryd.f64 F21_spindleref2_moves = true := by kernel_rfl
theorem ok23 : okFn Tryd.prog pr link Tryd.f80 F23_spindleref2_has = true := by kernel_rfl
theorem ok68 : okFn Tryd.prog pr link Tryd.f81 F68_spindleref2_register = true := by kernel_rfl
theorem ok24 : okFn Tryd.prog pr link Tryd.f68 F24_slices_Index_int_int = true := by kernel_rfl
theorem tied : Tied Tryd.prog pr link := tied_of (fns := fns) (fun _ => rfl) fun x hx => by
  simp only [fns, List.mem_cons, List.not_mem_nil, or_false] at hx
  rcases hx with rfl | rfl | rfl | rfl | rfl | rfl | rfl | rfl | rfl | rfl | rfl | rfl | rfl | rfl | rfl | rfl | rfl | rfl | rfl | rfl | rfl | rfl | rfl | rfl | rfl | rfl | rfl | rfl | rfl | rfl | rfl | rfl | rfl | rfl | rfl | rfl | rfl | rfl | rfl | rfl | rfl | rfl | rfl | rfl
  · exact ⟨Tryd.f3, Tryd.func3, ok215⟩
  · exact ⟨Tryd.f5, Tryd.func5, ok69⟩
  · exact ⟨Tryd.f6, Tryd.func6, ok212⟩
  · exact ⟨Tryd.f7, Tryd.func7, ok213⟩
  · exact ⟨Tryd.f8, Tryd.func8, ok169⟩
  · exact ⟨Tryd.f9, Tryd.func9, ok72⟩
  · exact ⟨Tryd.f10, Tryd.func10, ok12⟩
  · exact ⟨Tryd.f11, Tryd.func11, ok9⟩
  · exact ⟨Tryd.f12, Tryd.func12, ok170⟩
  · exact ⟨Tryd.f13, Tryd.func13, ok214⟩
  · exact ⟨Tryd.f24, Tryd.func24, ok70⟩
  · exact ⟨Tryd.f25, Tryd.func25, ok225⟩
  · exact ⟨Tryd.f26, Tryd.func26, ok216⟩
  · exact ⟨Tryd.f27, Tryd.func27, ok174⟩
  · exact ⟨Tryd.f28, Tryd.func28, ok77⟩
  · exact ⟨Tryd.f29, Tryd.func29, ok7⟩
  · exact ⟨Tryd.f30, Tryd.func30, ok217⟩
  · exact ⟨Tryd.f31, Tryd.func31, ok218⟩
  · exact ⟨Tryd.f32, Tryd.func32, ok219⟩
  · exact ⟨Tryd.f33, Tryd.func33, ok27⟩
  · exact ⟨Tryd.f48, Tryd.func48, ok0⟩
  · exact ⟨Tryd.f49, Tryd.func49, ok76⟩
  · exact ⟨Tryd.f39, Tryd.func39, ok65⟩
  · exact ⟨Tryd.f50, Tryd.func50, ok8⟩
  · exact ⟨Tryd.f51, Tryd.func51, ok220⟩
  · exact ⟨Tryd.f52, Tryd.func52, ok79⟩
  · exact ⟨Tryd.f29, Tryd.func29, ok224⟩
  · exact ⟨Tryd.f53, Tryd.func53, ok221⟩
  · exact ⟨Tryd.f54, Tryd.func54, ok222⟩
  · exact ⟨Tryd.f55, Tryd.func55, ok223⟩
  · exact ⟨Tryd.f36, Tryd.func36, ok11⟩
  · exact ⟨Tryd.f56, Tryd.func56, ok28⟩
  · exact ⟨Tryd.f57, Tryd.func57, ok29⟩
  · exact ⟨Tryd.f67, Tryd.func67, ok78⟩
  · exact ⟨Tryd.f40, Tryd.func40, ok17⟩
  · exact ⟨Tryd.f61, Tryd.func61, ok67⟩
  · exact ⟨Tryd.f34, Tryd.func34, ok18⟩
  · exact ⟨Tryd.f58, Tryd.func58, ok22⟩
  · exact ⟨Tryd.f62, Tryd.func62, ok19⟩
  · exact ⟨Tryd.f63, Tryd.func63, ok20⟩
  · exact ⟨Tryd.f64, Tryd.func64, ok21⟩
  · exact ⟨Tryd.f80, Tryd.func80, ok23⟩
  · exact ⟨Tryd.f81, Tryd.func81, ok68⟩
  · exact ⟨Tryd.f68, Tryd.func68, ok24⟩
theorem tie : Tie Tryd.prog pr link := ⟨by kernel_rfl, tied⟩
end Go.Proofs.YtnemobbnlacmjaaDoor.codeD
