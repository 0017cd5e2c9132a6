/- The document's rows, run by the kernel at every opcode. -/
import Derived.Test.YtnemobbnlacmjaaDoorShLisaMay
import Derived.Test.YtnemobbnlacmjaaDoorShBe
import Derived.Test.YtnemobbnlacmjaaDoorShEisaA
import Derived.KernelRfl
set_option linter.unusedVariables false
namespace Go.Sh
def evFnsR : List (Nat × SFn) := [(17, F17_spindleref2_Rows), (19, F19_spindleref2_arithmetic), (20, F20_spindleref2_jumps), (21, F21_spindleref2_moves), (23, F23_spindleref2_has)]
def prRef : Prog := progOf evFnsR fun _ => none
theorem chr0 : (List.range' 0 32).all (chkR prRef) = true := by kernel_rfl
theorem chr1 : (List.range' 32 32).all (chkR prRef) = true := by kernel_rfl
theorem chr2 : (List.range' 64 32).all (chkR prRef) = true := by kernel_rfl
theorem chr3 : (List.range' 96 32).all (chkR prRef) = true := by kernel_rfl
theorem chr4 : (List.range' 128 32).all (chkR prRef) = true := by kernel_rfl
theorem chr5 : (List.range' 160 32).all (chkR prRef) = true := by kernel_rfl
theorem chr6 : (List.range' 192 32).all (chkR prRef) = true := by kernel_rfl
theorem chr7 : (List.range' 224 32).all (chkR prRef) = true := by kernel_rfl
theorem chkR_ext {P P' : Prog} (hE : Ext P P') {op : Nat} (h : chkR P op = true) : chkR P' op = true := by
  unfold chkR at h ⊢
  split at h
  · exact runV_ext hE h
  · cases h
theorem refOk {pr : Prog} (h1 : Sub refFns pr) (h2 : Sub evFnsR pr) : RefOk pr where
  p := h1
  q := fun x hx => h2 x (by
    simp only [rowFns, List.mem_cons, List.not_mem_nil, or_false] at hx
    subst hx
    simp [evFnsR])
  c := fun op hop => chkR_ext (ext_of h2 fun _ _ h => by cases h) (chk_all chr0 chr1 chr2 chr3 chr4 chr5 chr6 chr7 op hop)
end Go.Sh
