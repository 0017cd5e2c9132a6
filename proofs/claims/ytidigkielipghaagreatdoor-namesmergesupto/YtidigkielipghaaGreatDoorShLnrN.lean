/- Part of the proof. -/
import Derived.Test.YtidigkielipghaaGreatDoorShLnrM
set_option linter.unusedVariables false
set_option linter.unusedSimpArgs false
set_option linter.unusedSectionVars false
namespace Go.Sh
theorem chkOkB {pr:Prog}(hp:Sub objFns pr)(hq:Sub slFns pr)(hI:IsaOk pr)(o:ObS)(ho:o.ok)(hs:∀ s∈namesO o,s.length≤9223372036854775807):ChkOk pr chkB o:=
  ⟨⟨(chkV o).1,(chkV o).2,fun st=> den_checkX hp hq hI o ho hs,by simp[chkB]⟩,chkB_few,hs⟩
section
variable {pr:Prog}(hp:Sub r15Fns pr){st:St}
include hp
theorem den_sameF {F:List Bnd}{a b:Bool}(hl:F.length≤140737488355328){v w:V}(hv:close1 v=some (dsl Bnd.cells a F))(hw:close1 w=some (dsl Bnd.cells b F)):den pr 368 [v,w] st=some (.d (.b true),st):=by
  refine den_shut (hp.at 5 rfl) rfl rfl (by simp only[closeA,hv,hw];rfl) ?_
  have hu:=dsl_d Bnd.c3 a F
  have hz:=dsl_d Bnd.c3 b F
  have hlu:=hu.len
  have hlz:=hz.len
  rw[List.length_map]at hlu hlz
  obtain⟨x,hx⟩:∃ x,x=dsl Bnd.cells a F:=⟨_,rfl⟩
  obtain⟨y,hy⟩:∃ y,y=dsl Bnd.cells b F:=⟨_,rfl⟩
  rw[← hx]at hu hlu ⊢
  rw[← hy]at hz hlz ⊢
  simp[F368,hlu,hlz]
  generalize hL:cden pr (.loop _ _ F368_b0) _ _=q
  obtain⟨r,rfl,e,s,rfl⟩:∃ r,q=some r∧∃ e s,r=(.exit 0,e,s):=by
    rw[← hL]
    clear hL
    refine loop_j (fun n e s=> ∃ j,n=F.length - j∧j≤F.length∧e= [(0,x),(1,y),(5,.d (.i .i64 (j:Nat)))]∧s=s0 [] [] 0 0) ?_ (n:=F.length) ⟨0,by omega,by omega,by simp,by simp⟩
    rintro n e s ⟨j,rfl,hj,rfl,rfl⟩
    rcases Nat.lt_or_ge j F.length with h | h
    · obtain⟨z,hz'⟩:∃ z,F[j]? =some z:=⟨_,List.getElem?_eq_getElem h⟩
      have hn1:IntKind.wrap .i64 ((j:Int)+1)=j+1:=wrap_i64 (by omega) (by omega)
      have hia:=hu.iaddr (i:=(j:Int)) (k:= .i64) (by omega) (by simp;omega)
      have hib:=hz.iaddr (i:=(j:Int)) (k:= .i64) (by omega) (by simp;omega)
      simp only[Int.toNat_natCast]at hia hib
      have hla:∀ st,loadV 3 true st (elP 3 x j 0)=some (.agg (ofDs z.cells)):=fun st=> by
        rw[hu.load (el:=z.cells) (by simp[hz']) (by omega) (by omega)]
        rfl
      have hlb:∀ st,loadV 3 true st (elP 3 y j 0)=some (.agg (ofDs z.cells)):=fun st=> by
        rw[hz.load (el:=z.cells) (by simp[hz']) (by omega) (by omega)]
        rfl
      have hev:eqV [9,2,0,0] (.agg (ofDs z.cells)) (.agg (ofDs z.cells))=some true:=by
        obtain⟨nm,ob,fn⟩:=z
        simp[eqV,Bnd.cells,ofDs,toDs,toD,eqDs,eqK]
      have hlt:F.length - (j+1) < F.length - j:=by omega
      simp[F368_b0,h,hlu,hlz,hia,hib,hla,hlb,hev,hn1,hu.esc,hz.esc]
      exact⟨_,hlt,j+1,rfl,h,by simp⟩
    · obtain rfl:j=F.length:=by omega
      simp[F368_b0,hlu,hlz,hu.esc,hz.esc]
  simp
end
end Go.Sh
