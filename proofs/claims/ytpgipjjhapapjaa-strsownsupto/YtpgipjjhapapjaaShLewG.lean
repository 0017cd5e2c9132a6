/- Part of the proof. -/
import Derived.Test.YtpgipjjhapapjaaShLlender
import Derived.Test.YtpgipjjhapapjaaShLelf1
import Derived.Test.YtpgipjjhapapjaaShLstrsG
import Derived.Test.YtpgipjjhapapjaaShBa
import Derived.Test.YtpgipjjhapapjaaShBe
set_option linter.unusedVariables false
set_option linter.unusedSimpArgs false
set_option linter.unusedSectionVars false
namespace Go.Sh
/-! ### Groups of cells, one behind the other -/
/-! ### The rack -/
structure Kr (s s':St)(A:Nat→Prop):Prop where
  floor:s'.floor=s.floor
  len:s.heap.length≤s'.heap.length
  keep:∀ i,i < s.heap.length→¬ A i→s'.row i=s.row i
theorem Kr.mono {a b:St}{A A':Nat→Prop}(h:Kr a b A)(ha:∀ i,i < a.heap.length→A i→A' i):Kr a b A':=⟨h.floor,h.len,fun i hi hn=> h.keep i hi fun e=> hn (ha i hi e)⟩
theorem Gr.kr {s s':St}{A:Nat→Prop}{P:V→Prop}(h:Gr s s' A P):Kr s s' A:=⟨h.floor,h.len,h.keep⟩
theorem Kp.kr {s s':St}{A T:Nat→Prop}(h:Kp s s' A T):Kr s s' A:=⟨h.floor,h.hlen,fun i hi hn=> row_of_heap (h.heap i hi hn)⟩
end Go.Sh
