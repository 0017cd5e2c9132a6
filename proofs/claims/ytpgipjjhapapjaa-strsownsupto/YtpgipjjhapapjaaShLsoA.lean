/- Part of the proof. -/
import Derived.Test.YtpgipjjhapapjaaShShelfE
import Derived.Test.YtpgipjjhapapjaaShLstrsK
import Derived.Test.YtpgipjjhapapjaaShLewL
set_option linter.unusedVariables false
set_option linter.unusedSimpArgs false
set_option linter.unusedSectionVars false
namespace Go.Sh
section
variable {st s':St}{A:Nat→Prop}{P:V→Prop}
theorem NL.gr {v:V}{t:Nat}{cs:List D}(h:NL st v t cs)(g:Gr st s' A P):NL s' v t cs:=by
  rcases h with h | ⟨h0,h1,h2,h3⟩
  · exact .inl h
  · exact .inr ⟨h0,h1,(g.tips t (List.getElem?_eq_some_iff.1 h2).1).trans h2,g.tfl.trans h3⟩
theorem Tbl.gr {p m tn tp:Nat}{ns:List Nm}(h:Tbl st p m tn tp ns)(g:Gr st s' A P)(hp:¬ A p):Tbl s' p m tn tp ns:=by
  obtain⟨vN,vP,h1,h2,h3⟩:=h.row
  exact⟨g.floor.trans h.fl,g.tfl.trans h.tf,⟨vN,vP,(g.keep p (row_lt h1) hp).trans h1,h2.gr g,h3.gr g⟩,g.maps _ _ h.map,h.tt,h.nd,h.ok⟩
theorem Dsk.gr {d p m tn tp:Nat}{live:Bool}{ns:List Nm}(h:Dsk st d p m tn tp live ns)(g:Gr st s' A P)(hA:∀ i,DR d p m live i→¬ A i):Dsk s' d p m tn tp live ns:=by
  obtain⟨nz,hr,hn⟩:=h.row
  exact⟨g.floor.trans h.fl,g.tfl.trans h.tf,⟨nz,(g.keep d (row_lt hr) (hA d (.inl rfl))).trans hr,hn⟩,fun hl=> ⟨(h.tab hl).1.gr g (hA p (.inr ⟨hl,.inl rfl⟩)),(h.tab hl).2⟩⟩
end
end Go.Sh
