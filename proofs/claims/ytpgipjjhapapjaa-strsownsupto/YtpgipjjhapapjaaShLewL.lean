/- Part of the proof. -/
import Derived.Test.YtpgipjjhapapjaaShLewG
import Derived.Test.YtpgipjjhapapjaaShBe
import Derived.Test.YtpgipjjhapapjaaShLelf1
import Derived.Test.YtpgipjjhapapjaaShLstrsG
import Derived.Test.YtpgipjjhapapjaaShBa
import Derived.Test.YtpgipjjhapapjaaShLlender
import Derived.Test.YtpgipjjhapapjaaShFlaw0
import Derived.Test.YtpgipjjhapapjaaShLbookG
set_option linter.unusedVariables false
set_option linter.unusedSimpArgs false
set_option linter.unusedSectionVars false
namespace Go.Sh
theorem BkI.kr {st s:St}{p:Nat}{b:Bk}{A:Nat→Prop}(h:BkI st p b)(g:Kr st s A)(hl:∀ a r,b.lab p a=some r→¬ A r)(hv:∀ v,v∈b.kv∨v∈b.wv→∀ r,foot v=some r→¬ A r):BkI s p b:=by
  have hk:∀ a r,b.lab p a=some r→s.row r=st.row r:=fun a r e=> g.keep r (h.lablt a r e) (hl a r e)
  refine⟨g.floor.trans h.fl,(hk 0 p rfl).trans h.row,h.F.row (hk 1),h.H.row (hk 2),h.M.row (hk 3),h.K.row (hk 4),h.W.row (hk 5),fun x hx=> (h.fr x hx).row fun r hr=> ?_,fun i k w hk hw=> ?_,h.sep,h.out,h.small,h.size,h.total⟩
  · obtain⟨i,hi⟩:=List.mem_iff_getElem?.1 hx
    exact hk (i+6) r (by simp[Bk.lab,hi,hr])
  · obtain⟨L,h1,h2⟩:=h.kw i k w hk hw
    exact⟨L,h1.row fun j hj=> g.keep j (h1.lt hj) (hv k (.inl (List.mem_of_getElem? hk)) j hj),h2.row fun j hj=> g.keep j (h2.lt hj) (hv w (.inr (List.mem_of_getElem? hw)) j hj)⟩
theorem BkI.vbyt9 {st:St}{p:Nat}{b:Bk}(h:BkI st p b){v:V}(hv:v∈b.kv∨v∈b.wv):∃ L,Byt st v L:=by
  have hwl:b.wv.length=b.kv.length:=by simpa using h.W.1
  rcases hv with hv | hv
  · obtain⟨i,hi⟩:=List.mem_iff_getElem?.1 hv
    have hlt:=(List.getElem?_eq_some_iff.1 hi).1
    obtain⟨w,hw⟩:∃ w,b.wv[i]? =some w:=⟨_,List.getElem?_eq_getElem (by omega)⟩
    obtain⟨L,h1,_⟩:=h.kw i v w hi hw
    exact⟨L,h1⟩
  · obtain⟨i,hi⟩:=List.mem_iff_getElem?.1 hv
    have hlt:=(List.getElem?_eq_some_iff.1 hi).1
    obtain⟨w,hw⟩:∃ w,b.kv[i]? =some w:=⟨_,List.getElem?_eq_getElem (by omega)⟩
    obtain⟨L,_,h1⟩:=h.kw i w v hw hi
    exact⟨L,h1⟩
end Go.Sh
