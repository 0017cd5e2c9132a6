/- String tables: the document's answers (spindleref8). -/
import Derived.Test.YtpgipjjhapapjaaShLstrsF
import Derived.Test.YtpgipjjhapapjaaShFref8
set_option linter.unusedVariables false
set_option linter.unusedSimpArgs false
namespace Go.Sh
def ref8Fns : List (Nat × SFn) := [(171, F171_spindleref8_Named), (172, F172_spindleref8_Table_place), (164, F164_spindleref8_Table_Add), (165, F165_spindleref8_Table_At), (168, F168_spindleref8_Table_Bytes), (162, F162_spindleref8_Read), (167, F167_spindlelaw0_SameTexts), (35, F35_spindlelaw0_CopyBytes), (12, F12_spindlelaw0_Num)]
theorem endAt_mono {a : Nat} {ns : List Nm} {i : Nat} : endAt a (ns.take i) ≤ endAt a ns := by
  conv => rhs; rw [← List.take_append_drop i ns, endAt_app]
  exact Nat.le_trans (Nat.le_add_right _ _) endAt_ge
theorem drop_cons {α : Type} {l : List α} {i : Nat} {x : α} (h : l[i]? = some x) : l.drop i = x :: l.drop (i + 1) := by
  rw [List.drop_eq_getElem_cons (List.getElem?_eq_some_iff.1 h).1, (List.getElem?_eq_some_iff.1 h).2]
theorem take_snoc {α : Type} {l : List α} {i : Nat} {x : α} (h : l[i]? = some x) : l.take (i + 1) = l.take i ++ [x] := by rw [List.take_add_one, h]; rfl
section
variable {pr : Prog} (hr : Sub ref8Fns pr) {st : St}
include hr
end
end Go.Sh
