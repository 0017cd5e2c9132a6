/- The shadow functions of isaInfo are the functions of the program. -/
import Derived.Test.YtgafhgbnjohbeaaDoorProg
import Derived.Test.YtgafhgbnjohbeaaDoorShF2
import Derived.Test.YtgafhgbnjohbeaaDoorSh25
import Derived.KernelRfl
namespace Go.Proofs.YtgafhgbnjohbeaaDoor.isaInfo
open Go.Sh
def fns : List (Nat × SFn) := [(13, F13_spindlelaw2_IsaInfo), (10, F10_spindleref2_Info), (11, F11_isa_Info), (12, F12_spindlelaw0_Num), (14, F14_isa_Ops), (15, F15_spindleref2_Ops), (16, F16_spindlelaw0_SameInts), (17, F17_spindleref2_Rows), (18, F18_isa_form), (19, F19_spindleref2_arithmetic), (20, F20_spindleref2_jumps), (21, F21_spindleref2_moves), (22, F22_slices_Contains_int_int), (23, F23_spindleref2_has), (24, F24_slices_Index_int_int)]
def pr : Prog := ⟨fun f => fns.lookup f, isaTabs⟩
def fnNo : List (Nat × Nat) := [(13, 3), (10, 4), (11, 5), (12, 6), (14, 7), (15, 8), (16, 9), (17, 10), (18, 11), (19, 12), (20, 13), (21, 14), (22, 15), (23, 16), (24, 17)]
def glNo : List (Nat × Nat) := [(0, 0), (1, 1), (2, 2), (3, 3)]
def link : Link := ⟨fun _ => 0, fun f => (fnNo.lookup f).getD 0, fun g => (glNo.lookup g).getD 0⟩
theorem ok13 : okFn Tryd.prog pr link Tryd.f3 F13_spindlelaw2_IsaInfo = true := by kernel_rfl
theorem ok10 : okFn Tryd.prog pr link Tryd.f4 F10_spindleref2_Info = true := by kernel_rfl
theorem ok11 : okFn Tryd.prog pr link Tryd.f5 F11_isa_Info = true := by kernel_rfl
theorem ok12 : okFn Tryd.prog pr link Tryd.f6 F12_spindlelaw0_Num = true := by kernel_rfl
theorem ok14 : okFn Tryd.prog pr link Tryd.f7 F14_isa_Ops = true := by kernel_rfl
theorem ok15 : okFn Tryd.prog pr link Tryd.f8 F15_spindleref2_Ops = true := by kernel_rfl
theorem ok16 : okFn Tryd.prog pr link Tryd.f9 F16_spindlelaw0_SameInts = true := by kernel_rfl
theorem ok17 : okFn Tryd.prog pr link Tryd.f10 F17_spindleref2_Rows = true := by kernel_rfl
theorem ok18 : okFn Tryd.prog pr link Tryd.f11 F18_isa_form = true := by kernel_rfl
theorem ok19 : okFn Tryd.prog pr link Tryd.f12 F19_spindleref2_arithmetic = true := by kernel_rfl
theorem ok20 : okFn Tryd.prog pr link Tryd.f13 F20_spindleref2_jumps = true := by kernel_rfl
theorem ok21 : okFn Tryd.prog pr link Tryd.f14 F21_spindleref2_moves = true := by kernel_rfl
theorem ok22 : okFn Tryd.prog pr link Tryd.f15 F22_slices_Contains_int_int = true := by kernel_rfl
theorem ok23 : okFn Tryd.prog pr link Tryd.f16 F23_spindleref2_has = true := by kernel_rfl
theorem ok24 : okFn Tryd.prog pr link Tryd.f17 F24_slices_Index_int_int = true := by kernel_rfl
theorem tied : Tied Tryd.prog pr link := tied_of (fns := fns) (fun _ => rfl) fun x hx => by
  simp only [fns, List.mem_cons, List.not_mem_nil, or_false] at hx
  rcases hx with rfl | rfl | rfl | rfl | rfl | rfl | rfl | rfl | rfl | rfl | rfl | rfl | rfl | rfl | rfl
  · exact ⟨Tryd.f3, Tryd.func3, ok13⟩
  · exact ⟨Tryd.f4, Tryd.func4, ok10⟩
  · exact ⟨Tryd.f5, Tryd.func5, ok11⟩
  · exact ⟨Tryd.f6, Tryd.func6, ok12⟩
  · exact ⟨Tryd.f7, Tryd.func7, ok14⟩
  · exact ⟨Tryd.f8, Tryd.func8, ok15⟩
  · exact ⟨Tryd.f9, Tryd.func9, ok16⟩
  · exact ⟨Tryd.f10, Tryd.func10, ok17⟩
  · exact ⟨Tryd.f11, Tryd.func11, ok18⟩
  · exact ⟨Tryd.f12, Tryd.func12, ok19⟩
  · exact ⟨Tryd.f13, Tryd.func13, ok20⟩
  · exact ⟨Tryd.f14, Tryd.func14, ok21⟩
  · exact ⟨Tryd.f15, Tryd.func15, ok22⟩
  · exact ⟨Tryd.f16, Tryd.func16, ok23⟩
  · exact ⟨Tryd.f17, Tryd.func17, ok24⟩
theorem tie : Tie Tryd.prog pr link := ⟨by kernel_rfl, tied⟩
end Go.Proofs.YtgafhgbnjohbeaaDoor.isaInfo
