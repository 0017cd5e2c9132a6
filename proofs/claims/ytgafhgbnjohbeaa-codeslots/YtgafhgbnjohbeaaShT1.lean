/- The shadow functions of codeSlots are the functions of the program. -/
import Derived.Test.YtgafhgbnjohbeaaProg
import Derived.Test.YtgafhgbnjohbeaaShF1
import Derived.Test.YtgafhgbnjohbeaaSh25
import Derived.KernelRfl
namespace Go.Proofs.Ytgafhgbnjohbeaa.codeSlots
open Go.Sh
def fns : List (Nat × SFn) := [(5, F5_spindlelaw3_CodeSlots), (0, F0_code_Slots), (1, F1_spindlelaw3_Lend), (2, F2_spindlelaw3_Turned), (3, F3_spindleref3_Slots), (4, F4_spindlelaw3_Back), (6, F6_spindlelaw3_behind), (7, F7_spindlelaw0_CopyInsns), (8, F8_spindleref3_wide), (9, F9_spindlelaw0_SameInsns)]
def pr : Prog := ⟨fun f => fns.lookup f, fun _ => none⟩
def fnNo : List (Nat × Nat) := [(5, 3), (0, 8), (1, 9), (2, 10), (3, 11), (4, 12), (6, 30), (7, 31), (8, 32), (9, 33)]
def link : Link := ⟨fun _ => 0, fun f => (fnNo.lookup f).getD 0, fun _ => 0⟩
theorem ok5 : okFn Try.prog pr link Try.f3 F5_spindlelaw3_CodeSlots = true := by kernel_rfl
theorem ok0 : okFn Try.prog pr link Try.f8 F0_code_Slots = true := by kernel_rfl
theorem ok1 : okFn Try.prog pr link Try.f9 F1_spindlelaw3_Lend = true := by kernel_rfl
theorem ok2 : okFn Try.prog pr link Try.f10 F2_spindlelaw3_Turned = true := by kernel_rfl
theorem ok3 : okFn Try.prog pr link Try.f11 F3_spindleref3_Slots = true := by kernel_rfl
theorem ok4 : okFn Try.prog pr link Try.f12 F4_spindlelaw3_Back = true := by kernel_rfl
theorem ok6 : okFn Try.prog pr link Try.f30 F6_spindlelaw3_behind = true := by kernel_rfl
theorem ok7 : okFn Try.prog pr link Try.f31 F7_spindlelaw0_CopyInsns = true := by kernel_rfl
theorem ok8 : okFn Try.prog pr link Try.f32 F8_spindleref3_wide = true := by kernel_rfl
theorem ok9 : okFn Try.prog pr link Try.f33 F9_spindlelaw0_SameInsns = true := by kernel_rfl
theorem tied : Tied Try.prog pr link := tied_of (fns := fns) (fun _ => rfl) fun x hx => by
  simp only [fns, List.mem_cons, List.not_mem_nil, or_false] at hx
  rcases hx with rfl | rfl | rfl | rfl | rfl | rfl | rfl | rfl | rfl | rfl
  · exact ⟨Try.f3, Try.func3, ok5⟩
  · exact ⟨Try.f8, Try.func8, ok0⟩
  · exact ⟨Try.f9, Try.func9, ok1⟩
  · exact ⟨Try.f10, Try.func10, ok2⟩
  · exact ⟨Try.f11, Try.func11, ok3⟩
  · exact ⟨Try.f12, Try.func12, ok4⟩
  · exact ⟨Try.f30, Try.func30, ok6⟩
  · exact ⟨Try.f31, Try.func31, ok7⟩
  · exact ⟨Try.f32, Try.func32, ok8⟩
  · exact ⟨Try.f33, Try.func33, ok9⟩
theorem tie : Tie Try.prog pr link := ⟨by kernel_rfl, tied⟩
end Go.Proofs.Ytgafhgbnjohbeaa.codeSlots
