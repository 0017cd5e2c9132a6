/- The shadow functions of isaMay are the functions of the program. -/
import Derived.Test.YtbjckcenlfgcaaaDoorProg
import Derived.Test.YtbjckcenlfgcaaaDoorShFisa
import Derived.Test.YtbjckcenlfgcaaaDoorShFlaw0
import Derived.Test.YtbjckcenlfgcaaaDoorShFlaw2
import Derived.Test.YtbjckcenlfgcaaaDoorShFref2
import Derived.Test.YtbjckcenlfgcaaaDoorShFslices
import Derived.Test.YtbjckcenlfgcaaaDoorShTabs
import Derived.Test.YtbjckcenlfgcaaaDoorShBe
import Derived.KernelRfl
namespace Go.Proofs.YtbjckcenlfgcaaaDoor.isaMay
open Go.Sh
def fns : List (Nat × SFn) := [(66, F66_spindlelaw2_IsaMay), (65, F65_spindleref2_May), (27, F27_isa_May), (12, F12_spindlelaw0_Num), (25, F25_spindlelaw2_awake), (17, F17_spindleref2_Rows), (67, F67_spindleref2_fits), (11, F11_isa_Info), (28, F28_isa_offs), (29, F29_isa_imms), (19, F19_spindleref2_arithmetic), (20, F20_spindleref2_jumps), (21, F21_spindleref2_moves), (23, F23_spindleref2_has), (68, F68_spindleref2_register), (18, F18_isa_form), (22, F22_slices_Contains_int_int), (24, F24_slices_Index_int_int)]
def pr : Prog := ⟨fun f => fns.lookup f, tabs⟩
def fnNo : List (Nat × Nat) := [(66, 3), (65, 4), (27, 5), (12, 6), (25, 7), (17, 8), (67, 9), (11, 10), (28, 11), (29, 12), (19, 13), (20, 14), (21, 15), (23, 16), (68, 17), (18, 18), (22, 19), (24, 20)]
def glNo : List (Nat × Nat) := [(0, 1), (1, 2), (2, 3), (3, 4), (4, 0)]
def tyNo : List (Nat × Nat) := []
def link : Link := ⟨fun t => (tyNo.lookup t).getD 0, fun f => (fnNo.lookup f).getD 0, fun g => (glNo.lookup g).getD 0⟩
theorem ok66 : okFn Tryd.prog pr link Tryd.f3 F66_spindlelaw2_IsaMay = true := by kernel_rfl
theorem ok65 : okFn Tryd.prog pr link Tryd.f4 F65_spindleref2_May = true := by kernel_rfl
theorem ok27 : okFn Tryd.prog pr link Tryd.f5 F27_isa_May = true := by kernel_rfl
theorem ok12 : okFn Tryd.prog pr link Tryd.f6 F12_spindlelaw0_Num = true := by kernel_rfl
theorem ok25 : okFn Tryd.prog pr link Tryd.f7 F25_spindlelaw2_awake = true := by kernel_rfl
theorem ok17 : okFn Tryd.prog pr link Tryd.f8 F17_spindleref2_Rows = true := by kernel_rfl
theorem ok67 : okFn Tryd.prog pr link Tryd.f9 F67_spindleref2_fits = true := by kernel_rfl
theorem ok11 : okFn Tryd.prog pr link Tryd.f10 F11_isa_Info = true := by kernel_rfl
theorem ok28 : okFn Tryd.prog pr link Tryd.f11 F28_isa_offs = true := by kernel_rfl
theorem ok29 : okFn Tryd.prog pr link Tryd.f12 F29_isa_imms = true := by kernel_rfl
theorem ok19 : okFn Tryd.prog pr link Tryd.f13 F19_spindleref2_arithmetic = true := by kernel_rfl
theorem ok20 : okFn Tryd.prog pr link Tryd.f14 F20_spindleref2_jumps = true := by kernel_rfl
theorem ok21 : okFn Tryd.prog pr link Tryd.f15 F21_spindleref2_moves = true := by kernel_rfl
theorem ok23 : okFn Tryd.prog pr link Tryd.f16 F23_spindleref2_has = true := by kernel_rfl
theorem ok68 : okFn Tryd.prog pr link Tryd.f17 F68_spindleref2_register = true := by kernel_rfl
theorem ok18 : okFn Tryd.prog pr link Tryd.f18 F18_isa_form = true := by kernel_rfl
theorem ok22 : okFn Tryd.prog pr link Tryd.f19 F22_slices_Contains_int_int = true := by kernel_rfl
theorem ok24 : okFn Tryd.prog pr link Tryd.f20 F24_slices_Index_int_int = true := by kernel_rfl
theorem tied : Tied Tryd.prog pr link := tied_of (fns := fns) (fun _ => rfl) fun x hx => by
  simp only [fns, List.mem_cons, List.not_mem_nil, or_false] at hx
  rcases hx with rfl | rfl | rfl | rfl | rfl | rfl | rfl | rfl | rfl | rfl | rfl | rfl | rfl | rfl | rfl | rfl | rfl | rfl
  · exact ⟨Tryd.f3, Tryd.func3, ok66⟩
  · exact ⟨Tryd.f4, Tryd.func4, ok65⟩
  · exact ⟨Tryd.f5, Tryd.func5, ok27⟩
  · exact ⟨Tryd.f6, Tryd.func6, ok12⟩
  · exact ⟨Tryd.f7, Tryd.func7, ok25⟩
  · exact ⟨Tryd.f8, Tryd.func8, ok17⟩
  · exact ⟨Tryd.f9, Tryd.func9, ok67⟩
  · exact ⟨Tryd.f10, Tryd.func10, ok11⟩
  · exact ⟨Tryd.f11, Tryd.func11, ok28⟩
  · exact ⟨Tryd.f12, Tryd.func12, ok29⟩
  · exact ⟨Tryd.f13, Tryd.func13, ok19⟩
  · exact ⟨Tryd.f14, Tryd.func14, ok20⟩
  · exact ⟨Tryd.f15, Tryd.func15, ok21⟩
  · exact ⟨Tryd.f16, Tryd.func16, ok23⟩
  · exact ⟨Tryd.f17, Tryd.func17, ok68⟩
  · exact ⟨Tryd.f18, Tryd.func18, ok18⟩
  · exact ⟨Tryd.f19, Tryd.func19, ok22⟩
  · exact ⟨Tryd.f20, Tryd.func20, ok24⟩
theorem tie : Tie Tryd.prog pr link := ⟨by kernel_rfl, tied⟩
end Go.Proofs.YtbjckcenlfgcaaaDoor.isaMay
