/- StrsBack, as a law about runs. -/
import Derived.Test.YtpgipjjhapapjaaShLstrs1
import Derived.Test.YtpgipjjhapapjaaShFlaw8
import Derived.Test.YtpgipjjhapapjaaShFlaw0
set_option linter.unusedVariables false
set_option linter.unusedSimpArgs false
namespace Go.Sh
def law8Fns : List (Nat × SFn) := [(145, F145_spindlelaw8_awake), (138, F138_spindlelaw8_few), (141, F141_spindlelaw8_StrsBack), (73, F73_spindlelaw0_SameBytes)]
section
variable {pr : Prog} (hp : Sub strsFns pr) (hq : SubP strsPrims pr) (hl : Sub law8Fns pr) {st : St}
include hl
include hp hq
end
end Go.Sh
