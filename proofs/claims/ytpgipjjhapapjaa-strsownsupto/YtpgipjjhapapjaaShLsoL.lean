/- Part of the proof. -/
import Derived.Test.YtpgipjjhapapjaaShLsoK
set_option linter.unusedVariables false
set_option linter.unusedSimpArgs false
set_option linter.unusedSectionVars false
namespace Go.Sh
def wAc:Nat→Bool:=fun f=> f==393 || f==394 || f==397 || f==167 || f==73
section
variable {pr:Prog}(hp:Sub strsFns pr)(hq:SubP strsPrims pr)(hl:Sub law8Fns pr)(hr:Sub ref8Fns pr)(ha:Sub allFns pr)(hp8:Sub ac8Fns pr){st:St}
include hp8
theorem callW_cloneR {v:V}{t:Nat}{ns:List Nm}(h:NL st v t (ns.map .s))(hf:st.floor=0)(hb:ns.length≤1099511627776):CallW pr 397 [v] st fun r s=> ∃ j,LR s 1 r ns.length (ofDs (flD sC ns)) j∧Gr st s (fun _=> False) (fun _=> True)∧∀ z,j=some z→st.heap.length≤z:=by
  refine .run wAc (hp8.at 3 rfl) rfl ?_
  rw[start_raw _ rfl]
  refine codeC_of ?_
  rcases h with⟨h0,rfl⟩ | ⟨h0,rfl,h1,h2⟩
  · have:ns= []:=by simpa using h0
    subst this
    simp[F397,wAc,eqV,FinW]
    exact⟨none,.nil _ _,.refl _ _ _,fun z hz=> by cases hz⟩
  · simp[F397,wAc,eqV,fillV,reps]
    have h0':LR (st.push (.row (ofDs []))) 1 (.rsl 1 st.heap.length 0 0 0) 0 [] (some st.heap.length):=⟨rfl,.inr ⟨_,0,[],rfl,rfl,Nat.le_refl _,row_push_new rfl,rfl⟩⟩
    refine appW_LR (by simpa using hf) h0' (m:=ns.length) (ys:=ofDs (flD sC ns)) (by
      rw[flD_s]
      simp[vwV,vw]) (by rw[flD_s];simp[ofDs]) rfl (by omega) (by omega) ?_
    intro s1 v1 j1 l1 g1 n1
    simp[F397,wAc,FinW]
    rw[Nat.zero_add,List.nil_append]at l1
    refine⟨j1,l1,?_,fun z hz=> ?_⟩
    · exact((Gr.push (A:=fun r=> r=st.heap.length) (P:=fun _=> True) _).trans ((g1.mono (fun i _ e=> (Option.some.inj e).symm) fun _ _=> trivial))).mono (fun i hi e=> by omega) fun _ h=> h
    · rcases n1 with rfl | ⟨i,rfl,h1,_⟩
      · rw[← Option.some.inj hz];exact Nat.le_refl _
      · rw[← Option.some.inj hz];simp at h1;omega
theorem callW_NamesR {p m tn tp:Nat}{ns:List Nm}(h:Tbl st p m tn tp ns)(hb:endAt 1 ns≤1099511627776):CallW pr 393 [.ptr p 0] st fun r s=> ∃ v j,r= .tup [v,.d (.i .i64 0)]∧LR s 1 v ns.length (ofDs (flD sC ns)) j∧Gr st s (fun _=> False) (fun _=> True)∧∀ z,j=some z→st.heap.length≤z:=by
  obtain⟨vN,vP,hrow,hN,hP⟩:=h.row
  have hge:=endAt_ge (a:=1) (ns:=ns)
  refine .run wAc (hp8.at 1 rfl) rfl ?_
  rw[start_raw _ rfl]
  refine codeC_of ?_
  simp[F393,wAc,eqV,hrow]
  refine(callW_cloneR hp8 hN h.fl (by omega)).mono ?_
  rintro r s ⟨j,q1,q2,q3⟩
  have ho:=q1.one
  simp[wAc,FinW,ho]
  exact⟨j,q1,q2,q3⟩
theorem callW_BytesR {p m tn tp:Nat}{ns:List Nm}(h:Tbl st p m tn tp ns)(hb:endAt 1 ns≤1099511627776):CallW pr 394 [.ptr p 0] st fun r s=> ∃ v j,r= .tup [v,.d (.i .i64 0)]∧LR s 1 v (endAt 1 ns) (ofDs (byteCells (tabB ns))) j∧Gr st s (fun _=> False) (fun _=> True)∧∀ z,j=some z→st.heap.length≤z:=by
  obtain⟨vN,vP,hrow,hN,hP⟩:=h.row
  have hge:=endAt_ge (a:=1) (ns:=ns)
  have hlen:=hN.len
  rw[List.length_map]at hlen
  have hr1:room 1 (.d (.i .i64 (1:Int)))=some 1:=by simp[room]
  have hr:room 1 (.d (.i .i64 (endAt 1 ns:Nat)))=some (endAt 1 ns):=by
    simp[room]
    omega
  have hle:1≤endAt 1 ns:=by omega
  refine .run wAc (hp8.at 2 rfl) rfl ?_
  rw[start_raw _ rfl]
  refine codeC_of ?_
  obtain⟨s1,hs1⟩:∃ s1,s1=st.push (.row (ofDs (reps (endAt 1 ns) [D.i .u8 0]))):=⟨_,rfl⟩
  have hrow1:s1.row p=some [vN,vP,.map m,.d (.i .i64 (endAt 1 ns:Nat))]:=by rw[hs1,row_old (row_lt hrow)];exact hrow
  have g1:Gr st s1 (fun _=> False) (fun _=> True):=by rw[hs1];exact .push _
  have hreps:∀ n:Nat,(ofDs (reps n [D.i .u8 0])).length=n:=by
    intro n
    simp[ofDs,reps]
  have l1:LR s1 1 (.rsl 1 st.heap.length 0 1 (endAt 1 ns)) 1 (ofDs (byteCells (tabB []))) (some st.heap.length):=by
    obtain⟨e,he⟩:∃ e,endAt 1 ns=e+1:=⟨endAt 1 ns - 1,by omega⟩
    refine⟨rfl,.inr ⟨_,_,ofDs (reps e [D.i .u8 0]),rfl,rfl,hle,?_,?_⟩⟩
    · rw[hs1,row_push_new rfl,he]
      rfl
    · rw[hreps];omega
  simp[F394,wAc,eqV,hrow,hr1,hr,hle,← hs1,hrow1,hlen]
  obtain⟨J,hJ⟩:∃ J:Nat→Env→St→Prop,∀ n' e s,J n' e s↔∃ i v j,i≤ns.length∧n'=ns.length - i∧e= [(4,v),(17,vN),(18,.d (.i .i64 (ns.length:Nat))),(19,.d (.i .i64 (i:Nat)))]∧LR s 1 v (endAt 1 (ns.take i)) (ofDs (byteCells (tabB (ns.take i)))) j∧Gr st s (fun _=> False) (fun _=> True)∧∀ z,j=some z→st.heap.length≤z:=⟨_,fun _ _ _=> Iff.rfl⟩
  refine loopW_j wAc J ?_ (n:=ns.length) ((hJ _ _ _).2 ⟨0,.rsl 1 st.heap.length 0 1 (endAt 1 ns),some st.heap.length,Nat.zero_le _,rfl,by simp,by simpa[endAt]using l1,g1,fun z hz=> by rw[← Option.some.inj hz];exact Nat.le_refl _⟩)
  intro n' e s hj
  obtain⟨i,v,j,hi,rfl,rfl,hlr,g,hn⟩:=(hJ _ _ _).1 hj
  rcases Nat.lt_or_ge i ns.length with hlt | hge2
  · obtain⟨x,hx⟩:∃ x,ns[i]? =some x:=⟨_,List.getElem?_eq_getElem hlt⟩
    obtain⟨a1,a2⟩:=hN.get (i:=i) (x:= .s x) (by simp[hx]) (k:= .i64)
    have h1:IntKind.wrap .i64 ((i:Int)+1)=i+1:=wrap_i64 (by omega) (by omega)
    have htk:ns.take (i+1)=ns.take i++ [x]:=by rw[List.take_add_one,hx];rfl
    have hsm:endAt 1 (ns.take (i+1))≤endAt 1 ns:=by
      conv=> rhs;rw[← List.take_append_drop (i+1) ns,endAt_app]
      exact Nat.le_trans (Nat.le_add_right _ _) endAt_ge
    have he:endAt 1 (ns.take (i+1))=endAt 1 (ns.take i)+x.length+1:=by rw[htk,endAt_snoc]
    have hxl:(ofDs (byteCells x)).length=x.length:=by simp[ofDs,byteCells]
    simp[F394_b0,wAc,hlt,a1,a2]
    refine appW_LR (g.floor.trans h.fl) hlr (m:=x.length) (ys:=ofDs (byteCells x)) (by simp[vwV,vw]) (by rw[hxl];omega) rfl (by omega) (by omega) ?_
    intro s2 v2 j2 l2 g2 n2
    simp[wAc,fillV,lay,reps,ofDs]
    refine appW_LR (g2.floor.trans (g.floor.trans h.fl)) l2 (m:=1) (ys:= [.d (.i .u8 0)]) (by simp[vwV,vw,ofDs]) rfl rfl (by omega) (by omega) ?_
    intro s3 v3 j3 l3 g3 n3
    simp[F394_b0,wAc,h1]
    have nn:∀ {a b:St} {j j':Option Nat},(∀ z,j=some z→st.heap.length≤z)→st.heap.length≤a.heap.length→(j'=j∨∃ i,j'=some i∧a.heap.length≤i∧i < b.heap.length)→∀ z,j'=some z→st.heap.length≤z:=by
      rintro a b j j' q1 q2 (rfl | ⟨i,rfl,q3,_⟩) z hz
      · exact q1 z hz
      · rw[← Option.some.inj hz];omega
    have hn2:=nn hn g.len n2
    have gg:Gr st s3 (fun i=> j=some i∨j2=some i) (fun _=> True):=(g.mono (fun i _ e=> e.elim) fun _ _=> trivial).trans ((g2.mono (fun i _ e=> .inl e) fun _ _=> trivial).trans (g3.mono (fun i _ e=> .inr e) fun _ _=> trivial))
    refine⟨ns.length - (i+1),by omega,(hJ _ _ _).2 ⟨i+1,v3,j3,hlt,rfl,by simp,?_,gg.mono (fun z hz e=> ?_) fun _ h=> h,nn hn2 (Nat.le_trans g.len g2.len) n3⟩⟩
    · rw[he,htk,tabB_snoc,byteCells_app,byteCells_app]
      have e3:ofDs (byteCells (tabB (ns.take i))++(byteCells x++byteCells [0]))=ofDs (byteCells (tabB (ns.take i)))++ofDs (byteCells x)++ [.d (.i .u8 0)]:=by simp[ofDs,byteCells]
      rw[e3]
      exact l3
    · rcases e with e | e
      · have:=hn z e;omega
      · have:=hn2 z e;omega
  · have:i=ns.length:=by omega
    subst this
    have ho:=hlr.one
    simp[F394_b0,wAc,FinW,ho]
    exact⟨j,by simpa using hlr,g,hn⟩
end
end Go.Sh
