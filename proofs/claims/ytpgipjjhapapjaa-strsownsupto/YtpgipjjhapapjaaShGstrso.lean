/- Part of the proof. -/
import Derived.Test.YtpgipjjhapapjaaShLsoO
import Derived.Test.YtpgipjjhapapjaaShTstrso
import Derived.Test.YtpgipjjhapapjaaShBe
set_option linter.unusedVariables false
namespace Go.Proofs.Ytpgipjjhapapjaa.strso
open Go.Sh
theorem hp:Sub strsFns pr:=by
  intro x hx
  simp only[strsFns,List.mem_cons,List.not_mem_nil,or_false]at hx
  rcases hx with rfl | rfl | rfl | rfl | rfl | rfl | rfl | rfl | rfl | rfl | rfl | rfl | rfl <;> rfl
theorem hq:SubP strsPrims pr:=by
  intro x hx
  simp only[strsPrims,List.mem_cons,List.not_mem_nil,or_false]at hx
  rcases hx with rfl | rfl | rfl <;> exact⟨rfl,rfl⟩
theorem hl:Sub law8Fns pr:=by
  intro x hx
  simp only[law8Fns,List.mem_cons,List.not_mem_nil,or_false]at hx
  rcases hx with rfl | rfl | rfl | rfl <;> rfl
theorem hr:Sub ref8Fns pr:=by
  intro x hx
  simp only[ref8Fns,List.mem_cons,List.not_mem_nil,or_false]at hx
  rcases hx with rfl | rfl | rfl | rfl | rfl | rfl | rfl | rfl | rfl <;> rfl
theorem hAll:Sub allFns pr:=by
  intro x hx
  simp only[allFns,List.mem_cons,List.not_mem_nil,or_false]at hx
  rcases hx with rfl | rfl | rfl | rfl | rfl | rfl | rfl <;> rfl
theorem hp8:Sub ac8Fns pr:=by
  intro x hx
  simp only[ac8Fns,List.mem_cons,List.not_mem_nil,or_false]at hx
  rcases hx with rfl | rfl | rfl | rfl <;> rfl
theorem hb:Sub bookFns pr:=by
  intro x hx
  simp only[bookFns,List.mem_cons,List.not_mem_nil,or_false]at hx
  rcases hx with rfl | rfl | rfl | rfl | rfl | rfl | rfl | rfl | rfl <;> rfl
theorem ho:Sub so8Fns pr:=by
  intro x hx
  simp only[so8Fns,List.mem_cons,List.not_mem_nil,or_false]at hx
  rcases hx with rfl | rfl | rfl | rfl | rfl | rfl | rfl <;> rfl
theorem hs:Sub ownsFns pr:=by
  intro x hx
  simp only[ownsFns,List.mem_cons,List.not_mem_nil,or_false]at hx
  rcases hx with rfl <;> rfl
def actTy:Ty:= .agg [.int .i64,.int .i64,.str,.int .i64]
theorem act_of {el:List D}(h:Has actTy el):∃ x:Int×Int×List UInt8×Int,el=actC x∧x.2.2.1.length≤140737488351232:=by
  simp only[actTy,Has,Hass]at h
  obtain⟨_,_,rfl,⟨a,rfl,a1,a2⟩,_,_,rfl,⟨b,rfl,b1,b2⟩,_,_,rfl,⟨c,rfl,c1⟩,_,_,rfl,⟨d,rfl,d1,d2⟩,rfl⟩:=h
  exact⟨(a,b,c,d),rfl,c1⟩
theorem acts_of:∀ {els:List (List D)},(∀ x∈els,Has actTy x)→∃ is:List (Int×Int×List UInt8×Int),els=is.map actC∧∀ x∈is,x.2.2.1.length≤140737488351232
  | [],_=> ⟨[],rfl,fun _ h=> by cases h⟩
  | x::els,h=> by
    obtain⟨y,rfl,hy⟩:=act_of (h x List.mem_cons_self)
    obtain⟨is,rfl,his⟩:=acts_of fun z hz=> h z (List.mem_cons_of_mem _ hz)
    refine⟨y::is,rfl,?_⟩
    intro z hz
    cases hz with
    | head=> exact hy
    | tail _ hz=> exact his z hz
end Go.Proofs.Ytpgipjjhapapjaa.strso
