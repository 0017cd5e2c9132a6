/- Part of the proof. -/
import Derived.Test.YtidigkielipghaaGreatDoorShBe
import Derived.Test.YtidigkielipghaaGreatDoorShFlaw0
set_option linter.unusedVariables false
set_option linter.unusedSimpArgs false
namespace Go.Sh
structure Bk where
  count:Int
  total:Int
  F:V
  H:V
  M:V
  K:V
  W:V
  jF:Option Nat
  jH:Option Nat
  jM:Option Nat
  jK:Option Nat
  jW:Option Nat
  fr:List (Option Nat×V×List UInt8)
  marks:List Int
  kv:List V
  wv:List V
def Bk.cells (b:Bk):List V:= [.d (.i .i64 b.count),.d (.i .i64 b.total),.d (.b false),b.F,b.H,b.M,b.K,b.W]
theorem LR.get {st:St}{v:V}{n:Nat}{cells:List V}{j:Option Nat}(h:LR st 1 v n cells j)(i:Nat){x:V}(hx:cells[i]? =some x){k:IntKind}:∃ j0 c,j=some j0∧iaddrV 1 v (.d (.i k (i:Int)))=some (.ptr j0 i)∧st.row j0=some c∧i+1≤c.length∧(c.drop i).take 1= [x]:=by
  have hlt:=(List.getElem?_eq_some_iff.1 hx).1
  obtain⟨j0,h1,h2⟩:=h.iaddr (k:=k) (i:=i) (by have:=h.1;omega)
  obtain⟨tail,h3⟩:=h.inRow h1
  have hl:i < (cells++tail).length:=by rw[List.length_append];omega
  refine⟨j0,_,h1,by simpa using h2,h3,by omega,?_⟩
  rw[List.drop_eq_getElem_cons hl,List.take_succ_cons,List.take_zero,List.getElem_append_left hlt]
  rw[(List.getElem?_eq_some_iff.1 hx).2]
section
variable {pr:Prog}{st:St}{p:Nat}{b:Bk}
def NewOr (st s:St)(j j':Option Nat):Prop:=j'=j∨∃ i,j'=some i∧st.heap.length≤i∧i < s.heap.length
end
end Go.Sh
namespace Go.Sh
def upd (lab:Nat→Option Nat)(a:Nat)(j:Option Nat):Nat→Option Nat:=fun c=> if c=a then j else lab c
theorem upd_eq {lab:Nat→Option Nat}{a:Nat}{j:Option Nat}:upd lab a j a=j:=by simp[upd]
theorem upd_ne {lab:Nat→Option Nat}{a c:Nat}{j:Option Nat}(h:c≠a):upd lab a j c=lab c:=by simp[upd,h]
structure Labs (s:St)(lab:Nat→Option Nat):Prop where
  lt:∀ a r,lab a=some r→r < s.heap.length
  sep:∀ a c r,lab a=some r→lab c=some r→a=c
theorem Labs.drop {s:St}{lab:Nat→Option Nat}(h:Labs s lab)(a:Nat):Labs s (upd lab a none):=by
  refine⟨fun c r hr=> ?_,fun c d r hc hd=> ?_⟩
  · by_cases hc:c=a
    · subst hc;rw[upd_eq]at hr;cases hr
    · rw[upd_ne hc]at hr;exact h.lt c r hr
  · have hca:c≠a:=by rintro rfl;rw[upd_eq]at hc;cases hc
    have hda:d≠a:=by rintro rfl;rw[upd_eq]at hd;cases hd
    rw[upd_ne hca]at hc
    rw[upd_ne hda]at hd
    exact h.sep c d r hc hd
theorem Labs.mono {s s':St}{lab:Nat→Option Nat}(h:Labs s lab)(hl:s.heap.length≤s'.heap.length):Labs s' lab:=⟨fun a r hr=> Nat.lt_of_lt_of_le (h.lt a r hr) hl,h.sep⟩
def Free (lab:Nat→Option Nat)(v:V):Prop:=∀ r,foot v=some r→∀ a,lab a≠some r
theorem Free.drop {lab:Nat→Option Nat}{v:V}(h:Free lab v)(a:Nat):Free (upd lab a none) v:=by
  intro r hr c hc
  by_cases hca:c=a
  · subst hca;rw[upd_eq]at hc;cases hc
  · rw[upd_ne hca]at hc;exact h r hr c hc
end Go.Sh
