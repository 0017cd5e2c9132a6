/- Part of the proof. -/
import Derived.Test.YtpgipjjhapapjaaShLstrs1
import Derived.Test.YtpgipjjhapapjaaShFlaw8
import Derived.Test.YtpgipjjhapapjaaShFlaw0
set_option linter.unusedVariables false
set_option linter.unusedSimpArgs false
namespace Go.Sh
def law8Fns:List (Nat×SFn):= [(145,F145),(138,F138),(141,F141),(73,F73)]
section
variable {pr:Prog}(hp:Sub strsFns pr)(hq:SubP strsPrims pr)(hl:Sub law8Fns pr){st:St}
include hl
theorem den_sameB8 {nz nz':Bool}{L L':List UInt8}:den pr 73 [bsl nz L,bsl nz' L'] st=some (.d (.b (decide (L=L'))),st):=by
  refine den_shut (hl.at 3 rfl) rfl rfl (by simp;rfl) ?_
  by_cases h:L=L' <;> simp[F73,h]
include hp hq
theorem den_awake8:den pr 145 [] st=some (.d (.b true),st):=by
  obtain⟨s1,a1,a2,a3⟩:=den_New hp (st:=s0 [] [] 0 0) rfl rfl
  obtain⟨s2,tn,tp,b1,b2,b3,b4⟩:=den_Add_new hp hq a2 (s:= [97,98]) (by decide) (by simp) (by decide)
  have h3:=den_At hp b2 1 (by decide)
  have h4:(if(1:Int)=0 then []else(atI 1 ([]++ [[97,98]])).getD [])=([97,98]:List UInt8):=by decide
  have h5:(if(1:Int)=0∨(atI 1 ([]++ [[97,98]])).isSome then(0:Int) else 81)=0:=by decide
  rw[h4,h5]at h3
  have he:((endAt 1 []:Nat):Int)=1:=rfl
  rw[he]at b1
  refine den_shut (hl.at 0 rfl) rfl rfl rfl ?_
  simp at a1 b1 h3
  simp[F145,a1,b1,h3,eqV]
end
end Go.Sh
