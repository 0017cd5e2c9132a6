/- Part of the proof. -/
import Derived.Test.YtidigkielipghaaGreatDoorShLns1
import Derived.Test.YtidigkielipghaaGreatDoorShLnmQ
set_option linter.unusedVariables false
set_option linter.unusedSimpArgs false
set_option linter.unusedSectionVars false
namespace Go.Sh
theorem mrgB_cp (os:List ObS):mrgR chkB (os.map ObS.cp)=mrgR chkB os:=by
  unfold mrgR
  rw[gathA_cp,List.length_map,List.all_map]
  rfl
theorem mrgB_few {os:List ObS}{F:List Bnd}{T:List TbS}{nm:Byt8}{e:Int}(hr:mrgR chkB os=(F,T,nm,e)):F.length≤1099511627776∧T.length≤1099511627776:=by
  by_cases he:e=0
  · subst he
    have hall:∀ o∈os,o.few:=by
      have hr:=hr
      unfold mrgR at hr
      split at hr
      · simp at hr
      · split at hr
        · rename_i hal
          exact fun o ho=> chkB_few (List.all_eq_true.1 hal _ ho)
        · simp at hr
    rw[← mrgB_cp]at hr
    have hB:=bindOk hr hall
    exact⟨Nat.le_of_lt hB.few,hB.few2⟩
  · obtain⟨rfl,rfl⟩:=mrgR_err hr he
    exact⟨Nat.zero_le _,Nat.zero_le _⟩
theorem ObS.ok_cp {o:ObS}(h:o.ok):o.cp.ok:=⟨h.tx,h.fn,h.tb,h.ex,h.rl⟩
theorem flat_B (T:List Bnd):(flC Bnd.cells T).all D.flat=true:=by
  refine List.all_eq_true.2 fun d hd=> ?_
  simp only[flC,List.mem_flatten,List.mem_map]at hd
  obtain⟨l,⟨x,_,rfl⟩,hd⟩:=hd
  simp only[Bnd.cells,List.mem_cons,List.not_mem_nil,or_false]at hd
  rcases hd with rfl | rfl | rfl <;> rfl
theorem Grw.freshC {α:Type}{c:α→List D}{sz:Nat}(hc:∀ x,(c x).length=sz){F:List α}{a:Option Nat}{v:V}{s:St}(h:Grw c sz F a v s)(hfl:(flC c F).all D.flat=true){n:Nat}{acc:List (Nat×List V)}(hacc:∀ x∈acc,∀ t,a=some t→x.1≠t){Q:V→List (Nat×List V)→Prop}
    (hnil:F= []→Q (.d (.sl 0 false [])) acc) (hrow:∀ t k,a=some t→F≠ []→Q (.rsl sz (n+acc.length) 0 F.length (F.length+k)) (acc++ [(t,ofDs (flC c F)++List.replicate (k * sz) (.d .any))])):FreshC s n v acc Q:=by
  cases a with
  | none=> obtain⟨rfl,rfl⟩:=h;exact⟨rfl,hnil rfl⟩
  | some t=>
    obtain⟨rfl,ht⟩:=h
    by_cases hF:F= []
    · subst hF
      exact⟨rfl,rfl,hnil rfl⟩
    · have hp:0 < F.length:=List.length_pos_iff.2 hF
      rw[show decide (0 < F.length)=true by simpa using hp]
      exact⟨ht,hfl,flC_len hc F,fun x hx=> hacc x hx t rfl,fun k=> hrow t k rfl hF⟩
section
variable {s:St}{p:Nat}{R:List V}{lab:Nat→Option Nat}{fs:Fs}{pv:List (Nat×V×List D)}{al:List (Nat×List V)}
theorem Hq.fresh {α:Type}{c:α→List D}{sz:Nat}(hc:∀ x,(c x).length=sz)(h:Hq s p R lab fs pv al){a:Nat}(ha:a≠0)(hla:lab a=none){F:List α}(k:Nat):
    Hq (s.push (.row (ofDs (flC c F)++List.replicate (k * sz) (.d .any)))) p R (upd lab a (some s.heap.length)) (updF fs a (some (sz,F.length,.rsl sz s.heap.length 0 F.length (F.length+k),ofDs (flC c F)))) pv al:=
  h.own ha hla (by rw[ofDs_len,flC_len hc]) (by rw[List.length_replicate,Nat.add_mul];omega) (by omega)
theorem MrgO.fresh {F:List Bnd}{T:List TbS}{nm:Byt8}{e:Int}{v:V}{s0:St}(hm:MrgO (F,T,nm,e) v s0)(h:Hq s p R lab fs pv al){a b:Nat}(ha:a≠0)(hb:b≠0)(hab:a≠b)(na:lab a=none∧fs a=none)(nb:lab b=none∧fs b=none){Q:V→St→Prop}
    (hQ:∀ s' fv tv lab' fs',Hq s' p R lab' fs' pv al→Els lab lab' fs fs' (fun x=> x=a∨x=b)→fs' a=some (3,F.length,fv,ofDs (flC Bnd.cells F))→fs' b=some (5,T.length,tv,ofDs (flC TbS.cells T))→Q (.tup [.agg [fv,tv],.d (.s nm),.d (.i .i64 e)]) s'):FreshA s0 s v Q:=by
  obtain⟨fv,tv,x,y,rfl,hF,hT,hxy⟩:=hm
  simp only[FreshA,Fresh1s,Fresh1,FreshCs,FreshC,D.flat,true_and]
  have nilA:Hq s p R (upd lab a none) (updF fs a (some (3,0,.d (.sl 0 false []),[]))) pv al:=h.nil ha
  refine hF.freshC cB (flat_B F) (fun x hx=> by cases hx) ?_ ?_
  · rintro rfl
    have h1:=nilA
    rw[upd_off na.1]at h1
    refine hT.freshC cT (flat_T T) (fun x hx=> by cases hx) ?_ ?_
    · rintro rfl
      have h2:=h1.nil (a:=b) (sz:=5) hb
      rw[upd_off nb.1]at h2
      simp only[List.map_nil,pushL_nil]
      refine hQ _ _ _ _ _ h2 ((Els.updF.mono fun e he=> .inl he).trans (Els.updF.mono fun e he=> .inr he)) ?_ ?_
      · rw[updF_ne hab,updF_eq];rfl
      · rw[updF_eq];rfl
    · intro t k ht hTn
      have h2:=h1.fresh cT (a:=b) hb nb.1 (F:=T) k
      simp only[List.nil_append,List.map_cons,List.map_nil,pushL_cons,pushL_nil,List.length_nil,Nat.add_zero]
      refine hQ _ _ _ _ _ h2 ((Els.updF.mono fun e he=> .inl he).trans (Els.upd.mono fun e he=> .inr he)) ?_ ?_
      · rw[updF_ne hab,updF_eq];rfl
      · rw[updF_eq]
  · intro t k ht hFn
    have h1:=h.fresh cB (a:=a) ha na.1 (F:=F) k
    simp only[List.nil_append,List.length_nil,Nat.add_zero]
    refine hT.freshC cT (flat_T T) (fun x hx u hu=> ?_) ?_ ?_
    · obtain rfl:=List.mem_singleton.1 hx
      exact hxy t u ht hu
    · rintro rfl
      have h2:=h1.nil (a:=b) (sz:=5) hb
      rw[upd_off (by rw[upd_ne (Ne.symm hab)];exact nb.1)]at h2
      simp only[List.map_cons,List.map_nil,pushL_cons,pushL_nil]
      refine hQ _ _ _ _ _ h2 ((Els.upd.mono fun e he=> .inl he).trans (Els.updF.mono fun e he=> .inr he)) ?_ ?_
      · rw[updF_ne hab,updF_eq]
      · rw[updF_eq];rfl
    · intro u k' hu hTn
      have h2:=h1.fresh cT (a:=b) hb (by rw[upd_ne (Ne.symm hab)];exact nb.1) (F:=T) k'
      simp only[List.cons_append,List.nil_append,List.map_cons,List.map_nil,pushL_cons,pushL_nil,List.length_cons,List.length_nil,Nat.zero_add]
      refine hQ _ _ _ _ _ h2 ((Els.upd.mono fun e he=> .inl he).trans (Els.upd.mono fun e he=> .inr he)) ?_ ?_
      · rw[updF_ne hab,updF_eq]
      · rw[updF_eq];simp
theorem callW_MergeA {pr:Prog}(hn:Sub nmFns pr)(hp:Sub objFns pr)(hq:Sub slFns pr)(hI:IsaOk pr)(hf:pr.fn 333=none)(hg:pr.prim 333=some (pSortedS 345)){v:V}{os:List ObS}(hv:Lst s 5 v (flC ObS.cells (os.map ObS.cp)))(hl:os.length≤1407374883553280)(hok:∀ o∈os,o.ok)(hs:∀ o∈os,∀ s∈namesO o,s.length≤9223372036854775807){F:List Bnd}{T:List TbS}{nm:Byt8}{e:Int}(hr:mrgR chkB os=(F,T,nm,e))
    (h:Hq s p R lab fs pv al) {a b:Nat} (ha:a≠0) (hb:b≠0) (hab:a≠b) (na:lab a=none∧fs a=none) (nb:lab b=none∧fs b=none) {Q:V→St→Prop}
    (hQ:∀ s' fv tv lab' fs',Hq s' p R lab' fs' pv al→Els lab lab' fs fs' (fun x=> x=a∨x=b)→fs' a=some (3,F.length,fv,ofDs (flC Bnd.cells F))→fs' b=some (5,T.length,tv,ofDs (flC TbS.cells T))→Q (.tup [.agg [fv,tv],.d (.s nm),.d (.i .i64 e)]) s'):CallW pr 320 [v] s Q:=by
  obtain⟨nz,hsee⟩:=hv.seeC ObS.c5 (by omega) 0
  refine .seenA (k:=1) (as:= [dsl ObS.cells nz (os.map ObS.cp)]) (by simp only[seeA,hsee]) ?_
  have hraw:=raw_Merge hn hf hg (dsl_d ObS.c5 nz (os.map ObS.cp)) (chk:=chkB) (by simp;omega) fun o ho=> by
    obtain⟨o',ho',rfl⟩:=List.mem_map.1 ho
    exact chkOkB hp hq hI _ (ObS.ok_cp (hok o' ho')) (hs o' ho')
  rw[mrgB_cp,hr]at hraw
  refine(hraw.callW (hn.at 2 rfl) rfl).mono fun v s' hm=> ?_
  exact hm.fresh h ha hb hab na nb hQ
def ngFns:List (Nat×SFn):= [(388,F388),(364,F364),(365,F365)]
def wNg:Nat→Bool:=fun f=> f==388 || f==364 || f==369 || f==370 || f==320 || f==367 || f==368 || f==321
theorem callW_cpObjsR {pr:Prog}(hp:Sub ngFns pr)(hq:Sub ncFns pr)(h:Hq s p R lab fs pv al){a:Nat}(ha:a≠0)(na:lab a=none){nz:Bool}{os:List ObS}(hl:os.length * 120≤140737488355328)(hok:∀ o∈os,o.ok){Q:V→St→Prop}
    (hQ:∀ s' v j,Hq s' p R (upd lab a j) (updF fs a (some (5,os.length,v,ofDs (flC ObS.cells (os.map ObS.cp))))) pv al→Q v s'):CallW pr 388 [dsl ObS.cells nz os] s Q:=by
  refine .run wNg (hp.at 0 rfl) rfl ?_
  rw[start_raw _ rfl]
  refine codeC_of ?_
  have hu:=dsl_d ObS.c5 nz os
  have hlen:=hu.len
  rw[List.length_map]at hlen
  obtain⟨u,hU⟩:∃ u,u=dsl ObS.cells nz os:=⟨_,rfl⟩
  rw[← hU]at hu hlen ⊢
  clear hU
  have h0:=h.nil (a:=a) ha (sz:=5)
  simp[F388,wNg]
  obtain⟨J,hJ⟩:∃ J:Nat→Env→St→Prop,∀ n' e s,J n' e s↔∃ i v j,i≤os.length∧n'=os.length - i∧e= [(0,u),(3,v),(4,.d (.i .i64 (i:Nat)))]∧Hq s p R (upd lab a j) (updF fs a (some (5,i,v,ofDs (flC ObS.cells ((os.take i).map ObS.cp))))) pv al:=⟨_,fun _ _ _=> Iff.rfl⟩
  refine loopW_j wNg J ?_ (n:=os.length) ((hJ _ _ _).2 ⟨0,.d (.sl 0 false []),none,Nat.zero_le _,rfl,by simp,h0⟩)
  intro n' e s hj
  obtain⟨i,v,j,hi,rfl,rfl,hs⟩:=(hJ _ _ _).1 hj
  rcases Nat.lt_or_ge i os.length with hlt | hge
  · have w1:IntKind.wrap .i64 ((i:Int)+1)=i+1:=wrap_i64 (by omega) (by omega)
    obtain⟨o,ho⟩:∃ o,os[i]? =some o:=⟨_,List.getElem?_eq_getElem hlt⟩
    have hia:=hu.iaddr (i:=(i:Int)) (k:= .i64) (by omega) (by simp;exact hlt)
    simp only[Int.toNat_natCast]at hia
    have hld:∀ st,loadV 5 true st (elP 5 u i 0)=some (.agg o.vs):=fun st=> by
      rw[hu.load (el:=o.cells) (by simp[ho]) (by omega) (by omega)]
      rfl
    have hcp:=fun st=> den_cpObj hq (st:=st) o (hok o (List.mem_of_getElem? ho))
    have hcells:ofDs o.cp.cells=o.cp.vs:=rfl
    obtain⟨d0,d1,d2,d3,d4,hd⟩:∃ d0 d1 d2 d3 d4:V,o.cp.vs= [d0,d1,d2,d3,d4]:=⟨_,_,_,_,_,rfl⟩
    have hv:=vwV_litN 5 s (ofDs o.cp.cells) rfl
    have ht:flC ObS.cells ((os.take (i+1)).map ObS.cp)=flC ObS.cells ((os.take i).map ObS.cp)++o.cp.cells:=by
      rw[List.take_add_one,ho]
      simp[flC]
    have h1:=hs.push (.row (ofDs o.cp.cells))
    rw[hcells,hd]at hv h1
    rw[hd]at hcp
    simp[F388_b0,wNg,hlen,hlt,hia,hld,hcp,fillV,lay,ofDs,reps]
    refine h1.app ha updF_eq hv (by simp) rfl (by omega) (by omega) ?_
    intro s2 v2 j2 h2 _ _
    simp[F388_b0,wNg,w1]
    refine⟨os.length - (i+1),by omega,(hJ _ _ _).2 ⟨i+1,v2,j2,by omega,rfl,by simp,?_⟩⟩
    rw[upd_upd,updF_updF,← hd,← hcells]at h2
    have e1:ofDs (flC ObS.cells ((os.take i).map ObS.cp))++ofDs o.cp.cells=ofDs (flC ObS.cells ((os.take (i+1)).map ObS.cp)):=by rw[ht];simp[ofDs]
    rw[e1]at h2
    exact h2
  · have:i=os.length:=by omega
    subst this
    simp[F388_b0,wNg,hlen,FinW]
    rw[List.take_of_length_le (Nat.le_refl _)]at hs
    exact hQ _ _ _ hs
end
end Go.Sh
