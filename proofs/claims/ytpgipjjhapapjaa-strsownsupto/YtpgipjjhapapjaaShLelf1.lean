/- Part of the proof. -/
import Derived.Test.YtpgipjjhapapjaaShLstrs1
import Derived.Test.YtpgipjjhapapjaaShBa
import Derived.Test.YtpgipjjhapapjaaShLstrsF
import Derived.Test.YtpgipjjhapapjaaShBe
set_option linter.unusedVariables false
set_option linter.unusedSimpArgs false
namespace Go.Sh
def ownB (T:Nat)(L:List UInt8):V:= .own 1 L.length (decide (L≠ [])) (byteCells L) T
@[simp] theorem ownB_close {T:Nat}{L:List UInt8}:close1 (ownB T L)=some (bsl (decide (L≠ [])) L):=rfl
@[simp] theorem ownB_ok1 {T:Nat}{L:List UInt8}:V.ok1 (ownB T L)=true:=rfl
@[simp] theorem ownB_len {T:Nat}{L:List UInt8}:lenV (ownB T L)=some L.length:=rfl
@[simp] theorem ownB_vw {T:Nat}{L:List UInt8}{st:St}:vw 1 st (ownB T L)=some (L.length,byteCells L):=rfl
/-! ### Sections -/
structure Sec where
  nm:List UInt8
  ty:Int
  fl:Int
  li:Int
  inf:Int
  al:Int
  es:Int
  data:List UInt8
  nz:Bool
def smallI (x:Int):Bool:=decide (0≤x) && decide (x≤4294967295)
def mayS (s:Sec):Bool:=okNm s.nm && smallI s.ty && smallI s.li && smallI s.inf && decide (0≤s.fl) && decide (0≤s.al) && decide (0≤s.es)
/-! ### Reading -/
end Go.Sh
namespace Go.Sh
def good (ss:List Sec):Prop:=ss.length≤16∧∀ x∈ss,mayS x=true
end Go.Sh
set_option linter.unusedSectionVars false
namespace Go.Sh
theorem see9 {v:V}{L:List UInt8}{st:St}(h:Byt st v L)(k:Nat):∃ nz,see1 st (k+1) v=some (bsl nz L):=by
  cases v with
  | d d=>
    cases d with
    | sl n nz cs=> obtain⟨rfl,rfl⟩:=h;exact⟨nz,rfl⟩
    | _=> exact h.elim
  | own sz n nz cs t=> obtain⟨rfl,rfl⟩:=h;exact⟨nz,rfl⟩
  | rsl sz id off n cap=>
    obtain⟨rfl,rfl,rfl,c,h4,h5,h6⟩:=h
    refine⟨true,?_⟩
    simp only[see1,seeD,h4,Nat.zero_add,Nat.mul_one,h5,if_true,List.drop_zero,h6,seeL_ofDs,Option.map_some,bsl]
  | _=> exact h.elim
end Go.Sh
