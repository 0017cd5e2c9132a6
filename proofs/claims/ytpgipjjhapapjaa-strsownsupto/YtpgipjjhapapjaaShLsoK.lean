/- Part of the proof. -/
import Derived.Test.YtpgipjjhapapjaaShLsoJ
set_option linter.unusedVariables false
set_option linter.unusedSimpArgs false
set_option linter.unusedSectionVars false
namespace Go.Sh
def ac8Fns:List (Nat×SFn):= [(389,F389),(393,F393),(394,F394),(397,F397)]
section
variable {pr:Prog}(hp:Sub strsFns pr)(hq:SubP strsPrims pr)(hl:Sub law8Fns pr)(hr:Sub ref8Fns pr)(ha:Sub allFns pr){st:St}
include hp ha hq hl hr
theorem den_actR (hp8:Sub ac8Fns pr){d p m tn tp:Nat}{live:Bool}{ns:List Nm}(h:Dsk st d p m tn tp live ns)(hb:endAt 1 ns≤1073741824)(w k:Int){s:List UInt8}(hs:s.length≤140737488351232)(x:Int)(hk:¬ (live=true∧(k=3∨k=4))):
    ∃ st' tn' tp' ns',den pr 389 [.ptr d 0,actV w k s x] st=some (.tup [.d (.b true),.d (.sl 0 false []),.d (.sl 0 false [])],st')∧ActP st st' d p m tn tp tn' tp' live ns ns':=by
  obtain⟨nz,hrow,hnz⟩:=h.row
  have hdl:=row_lt hrow
  obtain⟨s1,hs1⟩:∃ s1,s1=st.push (.row [.d (.i .i64 w),.d (.i .i64 k),.d (.s s),.d (.i .i64 x)]):=⟨_,rfl⟩
  have hbox:s1.row st.heap.length=some [.d (.i .i64 w),.d (.i .i64 k),.d (.s s),.d (.i .i64 x)]:=by rw[hs1];exact row_push_new rfl
  have k1:Kp st s1 (DR d p m live) (DT tn tp live ns):=by rw[hs1];exact .push _
  have k10:Kp st s1 (fun _=> False) (fun _=> False):=by rw[hs1];exact .push _
  have h1:Dsk s1 d p m tn tp live ns:=h.keep k10 (fun _ _=> id) fun _ _=> id
  have same:ActP st s1 d p m tn tp tn tp live ns ns:=⟨h1,k1,fun _ h=> .inl h,by omega⟩
  obtain⟨Q,hQ⟩:∃ Q:V→St→Prop,∀ v s',Q v s'↔∃ tn' tp' ns',v= .tup [.d (.b true),.d (.sl 0 false []),.d (.sl 0 false [])]∧ActP st s' d p m tn tp tn' tp' live ns ns':=⟨_,fun _ _=> Iff.rfl⟩
  suffices hh:Ans Q (den pr 389 [.ptr d 0,actV w k s x] st) by
    obtain⟨v,s',e1,e2⟩:=hh.ex
    obtain⟨tn',tp',ns',rfl,h2⟩:=(hQ _ _).1 e2
    exact⟨s',tn',tp',ns',e1,h2⟩
  have hdone:Q (.tup [.d (.b true),.d (.sl 0 false []),.d (.sl 0 false [])]) s1:=(hQ _ _).2 ⟨tn,tp,ns,rfl,same⟩
  rw[den_fn (hp8.at 0 rfl) rfl rfl,start_raw _ rfl]
  have hrow1:s1.row d=some [if live then .ptr p 0 else .d .np,.d (.sl ns.length nz (ns.map .s))]:=by rw[hs1,row_old hdl];exact hrow
  cases live with
  | false=>
    have hn:=den_nothing hp ha (st:=s1) (d:=d) hrow1 w k s x
    simp[actV]at hrow1 hn
    simp[F389,actV,← hs1,hrow1,eqV,hbox,hn]
    exact hdone
  | true=>
  obtain⟨htab,hdp⟩:=h1.tab rfl
  simp at hrow1
  by_cases e1:k=1
  · -- Add
    obtain⟨nz',ra,rb⟩:=den_refAdd hr (st:=s1) (nz:=nz) (ns:=ns) hnz (by omega) (s:=s) hs
    simp only[refT]at ra
    have hnum:=fun st x=> den_num8 hr (st:=st) x
    subst e1
    -- behind the document's answer:its table in a block of its own,the program's Add
    have fin:∀ (T':V) (q c:Int) (s4:St) (tn' tp':Nat) (ns':List Nm) (nz2:Bool),T'= .d (.sl ns'.length nz2 (ns'.map .s))→(nz2=false→ns'= [])→
     den pr 164 [.agg [.d (.sl ns.length nz (ns.map .s))],.d (.s s)] s1=some (.tup [.agg [T'],.d (.i .i64 q),.d (.i .i64 c)],s1)→
     den pr 140 [.ptr p 0,.d (.s s)] (s1.push (.row [T']))=some (.tup [.d (.i .i64 q),.d (.i .i64 c)],s4)→Tbl s4 p m tn' tp' ns'→Kp (s1.push (.row [T'])) s4 (TR p m) (TT tn tp ns)→
     (∀ t,DT tn' tp' true ns' t→DT tn tp true ns t∨st.tips.length≤t)→endAt 1 ns'≤endAt 1 ns+65→
     Ans Q (finish F389 st (cden pr F389.body (initE 0 [.ptr d 0,actV w 1 s x]) st)):=by
      intro T' q c s4 tn' tp' ns' nz2 hT' hnz2 hra hadd hT hK htok hsm
      have hs3:(s1.push (.row [T'])).row d=some [.ptr p 0,.d (.sl ns.length nz (ns.map .s))]:=by rw[row_old (row_lt hrow1)];exact hrow1
      have hs3b:(s1.push (.row [T'])).row st.heap.length=some [.d (.i .i64 w),.d (.i .i64 1),.d (.s s),.d (.i .i64 x)]:=by rw[row_old (row_lt hbox)];exact hbox
      have hdm:d≠m:=row_map_ne hrow1 htab.map
      have hs1l:s1.heap.length=st.heap.length+1:=by rw[hs1];simp
      have hpl:=htab.plt
      have hml:=map_lt htab.map
      have hst1:=h.rlt (i:=p) (.inr ⟨rfl,.inl rfl⟩)
      have hst2:=h.rlt (i:=m) (.inr ⟨rfl,.inr rfl⟩)
      have n4:∀ i,i < (s1.push (.row [T'])).heap.length→i≠p→i≠m→s4.row i=(s1.push (.row [T'])).row i:=fun i hi h1 h2=> row_of_heap (hK.heap i hi fun e=> by rcases e with e | e;exact h1 e;exact h2 e)
      have hs4d:s4.row d=some [.ptr p 0,.d (.sl ns.length nz (ns.map .s))]:=by rw[n4 d (by simp;omega) hdp hdm];exact hs3
      have hs4t:s4.row s1.heap.length=some [T']:=by rw[n4 s1.heap.length (by simp) (by omega) (by omega)];exact row_push_new rfl
      have hfl4:s4.floor=0:=hT.fl
      obtain⟨s5,hs5⟩:∃ s5,s5=s4.put d [.ptr p 0,T']:=⟨_,rfl⟩
      have hset:s4.setBlk d (.row [.ptr p 0,T'])=some s5:=by rw[hs5];exact setBlk_put hfl4
      have hset0:(s1.push (.row [.d (.sl 0 false [])])).setBlk s1.heap.length (.row [T'])=some (s1.push (.row [T'])):=by
        rw[setBlk_put (by simpa using h1.fl)]
        simp[St.put,St.push]
      have hdk:Dsk s5 d p m tn' tp' true ns':=by
        have kk:Kp s4 s5 (fun i=> i=d) (fun _=> False):=by rw[hs5];exact .put rfl
        refine⟨kk.floor.trans hfl4,kk.tfloor.trans hT.tf,⟨nz2,?_,hnz2⟩,fun _=> ⟨hT.keep kk (fun e=> hdp e.symm) (fun e=> hdm e.symm) fun _=> ⟨id,id⟩,hdp⟩⟩
        rw[hs5,row_put_eq (row_lt hs4d),hT']
        rfl
      have hQ5:Q (.tup [.d (.b true),.d (.sl 0 false []),.d (.sl 0 false [])]) s5:=by
        refine(hQ _ _).2 ⟨tn',tp',ns',rfl,hdk,?_,htok,hsm⟩
        have q1:Kp s1 (s1.push (.row [T'])) (DR d p m true) (DT tn tp true ns):= .push _
        have q2:Kp (s1.push (.row [T'])) s4 (DR d p m true) (DT tn tp true ns):=hK.mono (fun i _ e=> .inr ⟨rfl,e⟩) fun t _ e=> ⟨rfl,e⟩
        have q3:Kp s4 s5 (DR d p m true) (DT tn tp true ns):=by rw[hs5];exact .put (.inl rfl)
        exact k1.trans (q1.trans (q2.trans q3))
      have hTo:T'.ok1=true∧T'.cs= [T']:=by rw[hT'];exact⟨rfl,rfl⟩
      simp[F389,actV,← hs1,hrow1,eqV,hbox,hra,ofDs,lay,hset0,hs3,hs3b,hadd,hs4d,hs4t,hset,hnum,hTo]
      exact hQ5
    have kpush:∀ T',Kp s1 (s1.push (.row [T'])) (fun _=> False) (fun _=> False):=fun T'=> .push _
    cases hok:okNm s with
    | false=>
      rw[hok]at ra
      simp only[if_true]at ra
      exact fin _ 0 81 _ tn tp ns nz rfl hnz ra (den_Add_bad hp hq hok) (htab.keep (kpush _) id id fun _=> ⟨id,id⟩) (.refl _ _ _) (fun _ h=> .inl h) (by omega)
    | true=>
      have hsl:=okNm_len hok
      rw[hok]at ra
      simp only[Bool.true_eq_false,if_false]at ra
      cases hf:findNm s 1 ns with
      | some q=>
        rw[hf]at ra
        exact fin _ q 0 _ tn tp ns nz rfl hnz ra (den_Add_old hp hq (htab.keep (kpush _) id id fun _=> ⟨id,id⟩) hok hf) (htab.keep (kpush _) id id fun _=> ⟨id,id⟩) (.refl _ _ _) (fun _ h=> .inl h) (by omega)
      | none=>
        rw[hf]at ra
        obtain⟨s4,tn',tp',a1,a2,a3,a4⟩:=den_Add_new hp hq (htab.keep (kpush (.d (.sl (ns++ [s]).length nz' ((ns++ [s]).map .s)))) id id fun _=> ⟨id,id⟩) hok (findNm_none.1 hf) (by omega)
        refine fin _ (endAt 1 ns:Nat) 0 s4 tn' tp' (ns++ [s]) nz' rfl rb ra a1 a2 a3 (fun t ht=> ?_) (by rw[endAt_snoc];omega)
        obtain⟨_,_,ht⟩:=ht
        rcases a4 with⟨rfl,rfl,hne⟩ | ⟨q1,q2⟩
        · exact .inl ⟨rfl,hne,ht⟩
        · right
          have:st.tips.length≤(s1.push (.row [.d (.sl (ns++ [s]).length nz' ((ns++ [s]).map .s))])).tips.length:=by rw[hs1];exact Nat.le_refl _
          rcases ht with rfl | rfl <;> omega
  by_cases e2:k=2
  · have ra:=den_refAt hr (st:=s1) (nz:=nz) (ns:=ns) (by omega) x
    have rb:=den_At hp htab x (by omega)
    have hnum:=fun st x=> den_num8 hr (st:=st) x
    simp only[refT]at ra
    generalize (if x=0 then([]:List UInt8) else(atI x ns).getD [])=y at ra rb
    generalize (if x=0∨(atI x ns).isSome then(0:Int) else 81)=c at ra rb
    subst e2
    simp[F389,actV,← hs1,hrow1,eqV,hbox,ra,rb,hnum]
    exact hdone
  have e3:k≠3:=fun e=> hk ⟨rfl,.inl e⟩
  have e4:k≠4:=fun e=> hk ⟨rfl,.inr e⟩
  simp[F389,actV,← hs1,hrow1,eqV,hbox,e1,e2,e3,e4]
  exact hdone
end
end Go.Sh
