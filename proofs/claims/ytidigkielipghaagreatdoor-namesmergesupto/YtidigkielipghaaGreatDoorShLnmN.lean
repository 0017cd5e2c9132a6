/- Part of the proof. -/
import Derived.Test.YtidigkielipghaaGreatDoorShLnmM
set_option linter.unusedVariables false
set_option linter.unusedSimpArgs false
set_option linter.unusedSectionVars false
namespace Go.Sh
def glob1 (l:List FnS):Nat:=(l.filter fun f=> f.gl).length
def globs1 (os:List ObS):Nat:=(os.map fun o=> glob1 o.fn).sum
structure BindOk (os:List ObS)(F:List Bnd)(Tb:List TbS):Prop where
  bnd:∀ o∈os,∀ n∈o.ex,∃ b∈F,b.nm=n
  shp:∀ o∈os,∀ t∈o.tb,t∈Tb
  ris:∀ (i:Nat) b c,F[i]? =some b→F[i+1]? =some c→strLess b.nm c.nm=true
  rng:∀ b∈F,∃ (k j:Nat) (o:ObS) (f:FnS),b.ob=k∧b.fn=j∧os[k]? =some o∧o.fn[j]? =some f∧f.nm=b.nm∧f.gl=true
  cnt:globs1 os=F.length
  few:F.length < 1099511627776
  few2:Tb.length≤1099511627776
end Go.Sh
