/- Lenders: what was lent is given back. -/
import Derived.Test.YtpgipjjhapapjaaShLlender
set_option linter.unusedVariables false
set_option linter.unusedSimpArgs false
namespace Go.Sh
section
variable {pr : Prog} (hd : Sub lendFns pr) {st : St}
include hd
end
end Go.Sh
