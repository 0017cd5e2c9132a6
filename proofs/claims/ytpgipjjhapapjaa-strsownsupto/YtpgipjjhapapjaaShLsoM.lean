/- Part of the proof. -/
import Derived.Test.YtpgipjjhapapjaaShLsoL
set_option linter.unusedVariables false
set_option linter.unusedSimpArgs false
set_option linter.unusedSectionVars false
namespace Go.Sh
structure ActR (st st':St)(d p m tn tp:Nat)(live:Bool)(ns:List Nm)(x1 x2:V)(L1:List UInt8)(L2:List Nm)(j1 j2:Option Nat):Prop where
  dsk:∃ tn' tp' ns',Dsk st' d p m tn' tp' live ns'∧endAt 1 ns'≤endAt 1 ns+65
  kr:Kr st st' (DR d p m live)
  x1:LR st' 1 x1 L1.length (ofDs (byteCells L1)) j1
  x2:LR st' 1 x2 L2.length (ofDs (flD sC L2)) j2
  n1:∀ z,j1=some z→st.heap.length≤z
  n2:∀ z,j2=some z→st.heap.length≤z
  n12:∀ z,j1=some z→j2≠some z
  l1:L1.length≤endAt 1 ns
  l2:L2.length≤endAt 1 ns
section
variable {pr:Prog}(hp:Sub strsFns pr)(hq:SubP strsPrims pr)(hl:Sub law8Fns pr)(hr:Sub ref8Fns pr)(ha:Sub allFns pr)(hp8:Sub ac8Fns pr){st:St}
include hr in
theorem callW_smT8 {v:V}{L:List Nm}{nz:Bool}(hl:L.length≤1099511627776)(h:Lst st 1 v (flD sC L)):CallW pr 167 [v,.d (.sl L.length nz (L.map .s))] st fun r s=> st=s∧r= .d (.b true):=by
  obtain⟨n,nz1,hs,hn⟩:=h.see 0
  rw[flD_s]at hs hn
  rw[List.length_map,Nat.mul_one]at hn
  subst hn
  have hs':see1 st 1 (.d (.sl L.length nz (L.map .s)))=some (.d (.sl L.length nz (L.map .s))):=rfl
  have hd:=den_sameT hr (st:=st0) (nz:=nz1) (nz':=nz) (a:=L) (b:=L) hl
  rw[decide_eq_true rfl]at hd
  refine .seen (k:=1) (seeA_two hs hs') (CallW.of_den hd ?_)
  simp[FreshR,FreshV,D.flat,pushO,V.flat]
include hl in
theorem callW_smB8 {v:V}{L:List UInt8}{nz:Bool}(h:Byt st v L):CallW pr 73 [v,bsl nz L] st fun r s=> st=s∧r= .d (.b true):=by
  obtain⟨nz',hs⟩:=see9 h 0
  have hd:=den_sameB8 hl (st:=st0) (nz:=nz') (nz':=nz) (L:=L) (L':=L)
  rw[decide_eq_true rfl]at hd
  refine .seen (k:=1) (as:= [bsl nz' L,bsl nz L]) (seeA_two hs rfl) (CallW.of_den hd ?_)
  simp[FreshR,FreshV,D.flat,pushO,V.flat]
include hp hq hl hr ha hp8
theorem callW_act8 {d p m tn tp:Nat}{live:Bool}{ns:List Nm}(h:Dsk st d p m tn tp live ns)(hb:endAt 1 ns≤1073741824)(w k:Int){s:List UInt8}(hs:s.length≤140737488351232)(x:Int):
    CallW pr 389 [.ptr d 0,actV w k s x] st fun v st'=> ∃ x1 x2 L1 L2 j1 j2,v= .tup [.d (.b true),x1,x2]∧ActR st st' d p m tn tp live ns x1 x2 L1 L2 j1 j2:=by
  by_cases hk:live=true∧(k=3∨k=4)
  rotate_left
  · obtain⟨st',tn',tp',ns',e1,h1,h2,h3,h4⟩:=den_actR hp hq hl hr ha hp8 h hb w k hs x hk
    refine CallW.of_den e1 ⟨_,_,[],[],none,none,rfl,⟨⟨tn',tp',ns',h1,h4⟩,h2.kr,.nil _ _,.nil _ _,nofun,nofun,nofun,Nat.zero_le _,Nat.zero_le _⟩⟩
  obtain⟨rfl,hk⟩:=hk
  obtain⟨nz,hrow,hnz⟩:=h.row
  have hdl:=row_lt hrow
  have hge:=endAt_ge (a:=1) (ns:=ns)
  obtain⟨s1,hs1⟩:∃ s1,s1=st.push (.row [.d (.i .i64 w),.d (.i .i64 k),.d (.s s),.d (.i .i64 x)]):=⟨_,rfl⟩
  have hbox:s1.row st.heap.length=some [.d (.i .i64 w),.d (.i .i64 k),.d (.s s),.d (.i .i64 x)]:=by rw[hs1];exact row_push_new rfl
  have g1:Gr st s1 (fun _=> False) (fun _=> True):=by rw[hs1];exact .push _
  have h1:Dsk s1 d p m tn tp true ns:=h.gr g1 fun _ _=> id
  obtain⟨htab,hdp⟩:=h1.tab rfl
  have hrow1:s1.row d=some [.ptr p 0,.d (.sl ns.length nz (ns.map .s))]:=by rw[hs1,row_old hdl];exact hrow
  have hlen1:st.heap.length≤s1.heap.length:=g1.len
  obtain⟨Q,hQ⟩:∃ Q:V→St→Prop,∀ v st',Q v st'↔∃ x1 x2 L1 L2 j1 j2,v= .tup [.d (.b true),x1,x2]∧ActR st st' d p m tn tp true ns x1 x2 L1 L2 j1 j2:=⟨_,fun _ _=> Iff.rfl⟩
  refine CallW.mono (Q:=Q) ?_ fun v st' h=> (hQ v st').1 h
  refine .run wAc (hp8.at 0 rfl) rfl ?_
  rw[start_raw _ rfl]
  refine codeC_of ?_
  rcases hk with rfl | rfl
  · simp[F389,wAc,actV,← hs1,hrow1,eqV,hbox]
    refine(callW_NamesR hp8 htab (by omega)).mono ?_
    rintro r s2 ⟨v,j,rfl,q1,q2,q3⟩
    have h2:Dsk s2 d p m tn tp true ns:=h1.gr q2 fun _ _=> id
    have hrow2:s2.row d=some [.ptr p 0,.d (.sl ns.length nz (ns.map .s))]:=by rw[q2.keep d (row_lt hrow1) id];exact hrow1
    have ho:=q1.one
    simp[wAc,hrow2,ho]
    refine(callW_smT8 hr (by omega) q1.lst.1).mono ?_
    rintro r s' ⟨rfl,rfl⟩
    simp[wAc,FinW,ho]
    exact(hQ _ _).2 ⟨_,_,[],ns,none,j,rfl,⟨⟨tn,tp,ns,h2,by omega⟩,((g1.trans q2).kr).mono fun _ _ e=> e.elim,.nil _ _,q1,nofun,fun z hz=> Nat.le_trans hlen1 (q3 z hz),nofun,Nat.zero_le _,by omega⟩⟩
  · have ra:=fun st=> den_refBytes hr (st:=st) (nz:=nz) (ns:=ns) (by omega)
    simp only[refT]at ra
    have hE:(tabB ns).length=endAt 1 ns:=tabB_len
    simp[F389,wAc,actV,← hs1,hrow1,eqV,hbox]
    refine(callW_BytesR hp8 htab (by omega)).mono ?_
    rintro r s2 ⟨v,j,rfl,q1,q2,q3⟩
    have h2:Dsk s2 d p m tn tp true ns:=h1.gr q2 fun _ _=> id
    have hrow2:s2.row d=some [.ptr p 0,.d (.sl ns.length nz (ns.map .s))]:=by rw[q2.keep d (row_lt hrow1) id];exact hrow1
    have ho:=q1.one
    simp[wAc,hrow2,ho,ra]
    refine(callW_smB8 hl q1.byt.1).mono ?_
    rintro r s' ⟨rfl,rfl⟩
    simp[wAc,FinW,ho]
    exact(hQ _ _).2 ⟨_,_,tabB ns,[],j,none,rfl,⟨⟨tn,tp,ns,h2,by omega⟩,((g1.trans q2).kr).mono fun _ _ e=> e.elim,by rw[hE];exact q1,.nil _ _,fun z hz=> Nat.le_trans hlen1 (q3 z hz),nofun,nofun,by omega,Nat.zero_le _⟩⟩
end
end Go.Sh
