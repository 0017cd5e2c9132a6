/- The shadow functions of isaClass are the functions of the program. -/
import Derived.Test.YtgafhgbnjohbeabDoorProg
import Derived.Test.YtgafhgbnjohbeabDoorShF3
import Derived.Test.YtgafhgbnjohbeabDoorSh25
import Derived.KernelRfl
namespace Go.Proofs.YtgafhgbnjohbeabDoor.isaClass
open Go.Sh
def fns : List (Nat × SFn) := [(26, F26_spindlelaw2_IsaClass), (25, F25_spindlelaw2_awake), (11, F11_isa_Info), (27, F27_isa_May), (18, F18_isa_form), (28, F28_isa_offs), (29, F29_isa_imms), (22, F22_slices_Contains_int_int), (24, F24_slices_Index_int_int)]
def pr : Prog := ⟨fun f => fns.lookup f, isaTabs⟩
def fnNo : List (Nat × Nat) := [(26, 4), (25, 8), (11, 9), (27, 6), (18, 14), (28, 12), (29, 13), (22, 20), (24, 21)]
def glNo : List (Nat × Nat) := [(0, 1), (1, 2), (2, 3), (3, 4), (4, 0)]
def link : Link := ⟨fun _ => 0, fun f => (fnNo.lookup f).getD 0, fun g => (glNo.lookup g).getD 0⟩
theorem ok26 : okFn Tryd.prog pr link Tryd.f4 F26_spindlelaw2_IsaClass = true := by kernel_rfl
theorem ok25 : okFn Tryd.prog pr link Tryd.f8 F25_spindlelaw2_awake = true := by kernel_rfl
theorem ok11 : okFn Tryd.prog pr link Tryd.f9 F11_isa_Info = true := by kernel_rfl
theorem ok27 : okFn Tryd.prog pr link Tryd.f6 F27_isa_May = true := by kernel_rfl
theorem ok18 : okFn Tryd.prog pr link Tryd.f14 F18_isa_form = true := by kernel_rfl
theorem ok28 : okFn Tryd.prog pr link Tryd.f12 F28_isa_offs = true := by kernel_rfl
theorem ok29 : okFn Tryd.prog pr link Tryd.f13 F29_isa_imms = true := by kernel_rfl
theorem ok22 : okFn Tryd.prog pr link Tryd.f20 F22_slices_Contains_int_int = true := by kernel_rfl
theorem ok24 : okFn Tryd.prog pr link Tryd.f21 F24_slices_Index_int_int = true := by kernel_rfl
theorem tied : Tied Tryd.prog pr link := tied_of (fns := fns) (fun _ => rfl) fun x hx => by
  simp only [fns, List.mem_cons, List.not_mem_nil, or_false] at hx
  rcases hx with rfl | rfl | rfl | rfl | rfl | rfl | rfl | rfl | rfl
  · exact ⟨Tryd.f4, Tryd.func4, ok26⟩
  · exact ⟨Tryd.f8, Tryd.func8, ok25⟩
  · exact ⟨Tryd.f9, Tryd.func9, ok11⟩
  · exact ⟨Tryd.f6, Tryd.func6, ok27⟩
  · exact ⟨Tryd.f14, Tryd.func14, ok18⟩
  · exact ⟨Tryd.f12, Tryd.func12, ok28⟩
  · exact ⟨Tryd.f13, Tryd.func13, ok29⟩
  · exact ⟨Tryd.f20, Tryd.func20, ok22⟩
  · exact ⟨Tryd.f21, Tryd.func21, ok24⟩
theorem tie : Tie Tryd.prog pr link := ⟨by kernel_rfl, tied⟩
end Go.Proofs.YtgafhgbnjohbeabDoor.isaClass
