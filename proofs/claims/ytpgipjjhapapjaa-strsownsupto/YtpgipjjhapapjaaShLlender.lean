/- Part of the proof. -/
import Derived.Test.YtpgipjjhapapjaaShLstrs1
import Derived.Test.YtpgipjjhapapjaaShFlaw0
set_option linter.unusedVariables false
set_option linter.unusedSimpArgs false
namespace Go.Sh
@[simp] theorem rsl_cs {s a b n k:Nat}:V.cs (.rsl s a b n k)= [.rsl s a b n k]:=rfl
@[simp] theorem rsl_ok1 {s a b n k:Nat}:V.ok1 (.rsl s a b n k)=true:=rfl
end Go.Sh
