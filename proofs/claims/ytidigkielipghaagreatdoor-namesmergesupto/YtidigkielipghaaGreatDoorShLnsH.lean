/- Part of the proof. -/
import Derived.Test.YtidigkielipghaaGreatDoorShLnsG
set_option linter.unusedVariables false
set_option linter.unusedSimpArgs false
set_option linter.unusedSectionVars false
namespace Go.Sh
structure OsL where
  nz:Bool
  os:List ObS
def OsL.cells (x:OsL):List D:= [.sl x.os.length x.nz (flC ObS.cells x.os)]
theorem OsL.c1 (x:OsL):x.cells.length=1:=rfl
section
variable {pr:Prog}(hp:Sub ngFns pr)(hq:Sub ncFns pr)(hns:Sub nsFns pr)(h15:Sub r15Fns pr)(hsm:Sub smFns pr)(hn:Sub nmFns pr)(hob:Sub objFns pr)(hsl:Sub slFns pr)(h12:Sub ref12Fns pr)(h4:Sub ref4nFns pr)(h3:Sub ref3sFns pr)(hI:IsaOk pr)(hR:RefOk pr)(hf:pr.fn 333=none)(hg:pr.prim 333=some (pSortedS 345))(hA:AwkOk pr){st:St}
include hp hq hns h15 hsm hn hob hsl h12 h4 h3 hI hR hf hg hA
theorem law_NamesMerges {ls:List OsL}(nz:Bool)(hl:ls.length≤90000000000)(h1:∀ x∈ls,x.os.length * 120≤140737488351232)(hok:∀ x∈ls,∀ o∈x.os,o.ok)(hs:∀ x∈ls,∀ o∈x.os,∀ s∈namesO o,s.length≤9223372036854775807):
    CallW pr 365 [dsl OsL.cells nz ls] st fun v s=> s=st∧v= .d (.b true):=by
  refine .run0 wNg (hp.at 2 rfl) (by simp;rfl) rfl rfl (codeC_of ?_)
  have haw:=fun st=> den_awake15 hq hn hob hsl hI hf hg hA (st:=st)
  have hu:=dsl_d OsL.c1 nz ls
  have hlen:=hu.len
  rw[List.length_map]at hlen
  obtain⟨u,hU⟩:∃ u,u=dsl OsL.cells nz ls:=⟨_,rfl⟩
  rw[← hU]at hu hlen ⊢
  simp[F365,wNg,haw,ofDs]
  obtain⟨st1,hst1⟩:∃ st1,st1=s0 [.row [.d (.sl 0 false []),.d (.sl 0 false []),.d (.sl 0 false []),.d (.sl 0 false [])]] [] 0 0:=⟨_,rfl⟩
  have hb:Hq st1 0 [.d (.sl 0 false []),.d (.sl 0 false []),.d (.sl 0 false []),.d (.sl 0 false [])] (fun c=> if c=0 then some 0 else none) (fun _=> none) [] []:=by
    rw[hst1]
    refine⟨rfl,rfl,rfl,rfl,fun a x h=> by simp at h,⟨fun a r h=> ?_,fun a d r ha hd=> ?_⟩,fun x h=> by simp at h,fun x h=> by simp at h⟩
    · split at h
      · obtain rfl:=Option.some.inj h
        decide
      · cases h
    · split at ha
      · split at hd
        · omega
        · cases hd
      · cases ha
  have hb1:=(((hb.nil (a:=1) (sz:=1) (by omega)).nil (a:=2) (sz:=1) (by omega)).nil (a:=3) (sz:=1) (by omega)).nil (a:=4) (sz:=1) (by omega)
  obtain⟨lab0,fs0,hI0,hN0⟩:∃ lab0 fs0,NsI st1 0 ⟨.d (.sl 0 false []),.d (.sl 0 false []),.d (.sl 0 false []),.d (.sl 0 false []),[],[],[],[]⟩ lab0 fs0 [] []∧∀ e,5≤e→lab0 e=none∧fs0 e=none:=by
    refine⟨_,_,⟨hb1,?_,?_,?_,?_,fun i x y h=> by simp at h,fun i x y h=> by simp at h,fun e he=> ?_⟩,fun e he=> ?_⟩
    · simp[updF]
    · simp[updF]
    · simp[updF]
    · simp[updF]
    · have h0:e≠0:=by omega
      have h1:e≠1:=by omega
      have h2:e≠2:=by omega
      have h3:e≠3:=by omega
      have h4:e≠4:=by omega
      simp[updF,upd,h0,h1,h2,h3,h4]
    · have h0:e≠0:=by omega
      have h1:e≠1:=by omega
      have h2:e≠2:=by omega
      have h3:e≠3:=by omega
      have h4:e≠4:=by omega
      simp[updF,upd,h0,h1,h2,h3,h4]
  rw[← hst1]
  obtain⟨J,hJ⟩:∃ J:Nat→Env→St→Prop,∀ n' e s,J n' e s↔∃ i b lab fs pv,i≤ls.length∧n'=ls.length - i∧e= [(0,u),(3,.ptr 0 0),(4,.d (.i .i64 (i:Nat)))]∧NsI s 0 b lab fs pv []∧(∀ e,5≤e→lab e=none∧fs e=none)∧b.fl.length=6 * i∧b.tl.length=4 * i:=⟨_,fun _ _ _=> Iff.rfl⟩
  refine loopW_j wNg J ?_ (n:=ls.length) ((hJ _ _ _).2 ⟨0,_,lab0,fs0,[],Nat.zero_le _,rfl,by simp,hI0,hN0,rfl,rfl⟩)
  intro n' e s hj
  obtain⟨i,b,lab,fs,pv,hi,rfl,rfl,hs1,hno,hb1,hb2⟩:=(hJ _ _ _).1 hj
  rcases Nat.lt_or_ge i ls.length with hlt | hge
  · have w1:IntKind.wrap .i64 ((i:Int)+1)=i+1:=wrap_i64 (by omega) (by omega)
    obtain⟨x,hx⟩:∃ x,ls[i]? =some x:=⟨_,List.getElem?_eq_getElem hlt⟩
    have hxm:=List.mem_of_getElem? hx
    have hia:=hu.iaddr (i:=(i:Int)) (k:= .i64) (by omega) (by simp;exact hlt)
    simp only[Int.toNat_natCast]at hia
    have hld:∀ st,loadV 1 false st (elP 1 u i 0)=some (dsl ObS.cells x.nz x.os):=fun st=> by
      rw[hu.load (el:=x.cells) (by simp[hx]) (by omega) (by omega)]
      rfl
    simp[F365_b0,wNg,hlen,hlt,hia,hld]
    refine callW_merged hp hq hns h15 hsm hn hob hsl h12 h4 h3 hI hR hf hg hs1 hno (by omega) (h1 x hxm) (hok x hxm) (hs x hxm) ?_
    intro s' b' lab' fs' pv' hI' hno' q1 q2
    simp[F365_b0,wNg,w1]
    exact⟨ls.length - (i+1),by omega,(hJ _ _ _).2 ⟨i+1,b',lab',fs',pv',by omega,rfl,by simp,hI',hno',by omega,by omega⟩⟩
  · have:i=ls.length:=by omega
    subst this
    simp[F365_b0,wNg,hlen]
end
end Go.Sh
