/- Part of the proof. -/
import Derived.KernelRfl
import Derived.Test.YtidigkielipghaaGreatDoorShLisaMay
import Derived.Test.YtidigkielipghaaGreatDoorShBe
import Derived.Test.YtidigkielipghaaGreatDoorShFslices
set_option linter.unusedVariables false
namespace Go.Sh
def evFns:List (Nat×SFn):= [(18,F18),(11,F11),(22,F22),(24,F24)]
def prIsa:Prog:=progOf evFns tabs
theorem chk0:(List.range' 0 32).all (chkA prIsa)=true:=by kernel_rfl
theorem chk1:(List.range' 32 32).all (chkA prIsa)=true:=by kernel_rfl
theorem chk2:(List.range' 64 32).all (chkA prIsa)=true:=by kernel_rfl
theorem chk3:(List.range' 96 32).all (chkA prIsa)=true:=by kernel_rfl
theorem chk4:(List.range' 128 32).all (chkA prIsa)=true:=by kernel_rfl
theorem chk5:(List.range' 160 32).all (chkA prIsa)=true:=by kernel_rfl
theorem chk6:(List.range' 192 32).all (chkA prIsa)=true:=by kernel_rfl
theorem chk7:(List.range' 224 32).all (chkA prIsa)=true:=by kernel_rfl
theorem chk_all {P:Nat→Bool}(h0:(List.range' 0 32).all P=true)(h1:(List.range' 32 32).all P=true)(h2:(List.range' 64 32).all P=true)(h3:(List.range' 96 32).all P=true)(h4:(List.range' 128 32).all P=true)(h5:(List.range' 160 32).all P=true)(h6:(List.range' 192 32).all P=true)(h7:(List.range' 224 32).all P=true):∀ op:Nat,op < 256→P op=true:=by
  intro op hop
  have h:∀ k,(List.range' (32 * k) 32).all P=true→32 * k≤op→op < 32 * k+32→P op=true:=fun k h h1 h2=> List.all_eq_true.1 h op (by rw[List.mem_range'];exact⟨op - 32 * k,by omega,by omega⟩)
  have:op / 32 < 8:=by omega
  rcases(by omega:op / 32=0∨op / 32=1∨op / 32=2∨op / 32=3∨op / 32=4∨op / 32=5∨op / 32=6∨op / 32=7) with q | q | q | q | q | q | q | q
  · exact h 0 h0 (by omega) (by omega)
  · exact h 1 h1 (by omega) (by omega)
  · exact h 2 h2 (by omega) (by omega)
  · exact h 3 h3 (by omega) (by omega)
  · exact h 4 h4 (by omega) (by omega)
  · exact h 5 h5 (by omega) (by omega)
  · exact h 6 h6 (by omega) (by omega)
  · exact h 7 h7 (by omega) (by omega)
theorem chkA_ext {P P':Prog}(hE:Ext P P'){op:Nat}(h:chkA P op=true):chkA P' op=true:=by
  unfold chkA at h ⊢
  split at h
  · simp only[Bool.and_eq_true]at h ⊢
    obtain⟨⟨⟨⟨⟨h1,h2⟩,h4⟩,h5⟩,h6⟩,h7⟩:=h
    exact⟨⟨⟨⟨⟨runD_ext hE h1,runV_ext hE h2⟩,h4⟩,h5⟩,h6⟩,h7⟩
  · cases h
theorem isaOk {pr:Prog}(h1:Sub isaFns pr)(h2:Sub evFns pr)(hg:∀ n c,tabs n=some c→pr.glob n=some c):IsaOk pr where
  p:=h1
  q:=fun x hx=> h2 x (by
   simp only[outFns,List.mem_cons,List.not_mem_nil,or_false]at hx
   rcases hx with rfl | rfl <;> simp[evFns])
  g:=hg 4 _ rfl
  c:=fun op hop=> chkA_ext (ext_of h2 hg) (chk_all chk0 chk1 chk2 chk3 chk4 chk5 chk6 chk7 op hop)
end Go.Sh
namespace Go.Sh
def evFnsR:List (Nat×SFn):= [(17,F17),(19,F19),(20,F20),(21,F21),(23,F23)]
def prRef:Prog:=progOf evFnsR fun _=> none
theorem chr0:(List.range' 0 32).all (chkR prRef)=true:=by kernel_rfl
theorem chr1:(List.range' 32 32).all (chkR prRef)=true:=by kernel_rfl
theorem chr2:(List.range' 64 32).all (chkR prRef)=true:=by kernel_rfl
theorem chr3:(List.range' 96 32).all (chkR prRef)=true:=by kernel_rfl
theorem chr4:(List.range' 128 32).all (chkR prRef)=true:=by kernel_rfl
theorem chr5:(List.range' 160 32).all (chkR prRef)=true:=by kernel_rfl
theorem chr6:(List.range' 192 32).all (chkR prRef)=true:=by kernel_rfl
theorem chr7:(List.range' 224 32).all (chkR prRef)=true:=by kernel_rfl
theorem chkR_ext {P P':Prog}(hE:Ext P P'){op:Nat}(h:chkR P op=true):chkR P' op=true:=by
  unfold chkR at h ⊢
  split at h
  · exact runV_ext hE h
  · cases h
theorem refOk {pr:Prog}(h1:Sub refFns pr)(h2:Sub evFnsR pr):RefOk pr where
  p:=h1
  q:=fun x hx=> h2 x (by
   simp only[rowFns,List.mem_cons,List.not_mem_nil,or_false]at hx
   subst hx
   simp[evFnsR])
  c:=fun op hop=> chkR_ext (ext_of h2 fun _ _ h=> by cases h) (chk_all chr0 chr1 chr2 chr3 chr4 chr5 chr6 chr7 op hop)
end Go.Sh
