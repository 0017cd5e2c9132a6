/- Part of the proof. -/
import Derived.Test.YtpgipjjhapapjaaShLsoN
set_option linter.unusedVariables false
set_option linter.unusedSimpArgs false
set_option linter.unusedSectionVars false
namespace Go.Sh
def ownsFns:List (Nat×SFn):= [(391,F391)]
def wS8:Nat→Bool:=fun f=> f==389 || f==126 || f==390 || f==392
section
variable {pr:Prog}(hp:Sub strsFns pr)(hq:SubP strsPrims pr)(hl:Sub law8Fns pr)(hr:Sub ref8Fns pr)(ha:Sub allFns pr)(hp8:Sub ac8Fns pr)(hb:Sub bookFns pr)(ho:Sub so8Fns pr)(hs:Sub ownsFns pr)
variable {d p m:Nat}{live:Bool}{pb ps:Nat}{u:V}{nz:Bool}{as:List (Int×Int×List UInt8×Int)}
include hp hq hl hr ha hp8 hb ho hs
theorem loopOwn1 {T:V}{bs:List (Int×Int×List UInt8×Int)}(hT:SlD 4 T (bs.map actC))(hbl:bs.length=5)(has:∀ a∈bs,a.2.2.1.length≤140737488351232){i:Nat}(hi:i≤1048576){s:St}(h:LE8 s d p m live pb ps (5 * i)){Q:Out→Prop}
    (hQ:∀ e s,e.get 1=some u→e.get 5=some (.ptr d 0)→e.get 7=some (.ptr pb 0)→e.get 8=some (.ptr ps 0)→e.get 9=some (.d (.i .i64 (i:Nat)))→LE8 s d p m live pb ps (5 * i+5)→Q (.exit 2,e,s)):
    CodeW pr (.loop [1,5,7,8,9,10,11] false F391_b1) [(1,u),(5,.ptr d 0),(7,.ptr pb 0),(8,.ptr ps 0),(9,.d (.i .i64 (i:Nat))),(10,T),(11,.d (.i .i64 0))] s Q:=by
  have hlen:=hT.len
  rw[List.length_map,hbl]at hlen
  obtain⟨J,hJ⟩:∃ J:Nat→Env→St→Prop,∀ n' e s,J n' e s↔∃ j,j≤5∧n'=5 - j∧e= [(1,u),(5,.ptr d 0),(7,.ptr pb 0),(8,.ptr ps 0),(9,.d (.i .i64 (i:Nat))),(10,T),(11,.d (.i .i64 (j:Nat)))]∧LE8 s d p m live pb ps (5 * i+j):=⟨_,fun _ _ _=> Iff.rfl⟩
  refine loopW_j wS8 J ?_ (n:=5) ((hJ _ _ _).2 ⟨0,Nat.zero_le _,rfl,by simp,h⟩)
  intro n' e s hj
  obtain⟨j,hj5,rfl,rfl,h⟩:=(hJ _ _ _).1 hj
  rcases Nat.lt_or_ge j 5 with hlt | hge
  rotate_left
  · have:j=5:=by omega
    subst this
    simp[F391_b1,wS8,hlen]
    exact hQ _ _ (by simp) (by simp) (by simp) (by simp) (by simp) h
  have w1:IntKind.wrap .i64 ((j:Int)+1)=j+1:=wrap_i64 (by omega) (by omega)
  have hlt':(j:Int) < 5:=by omega
  obtain⟨a,hai⟩:∃ a,bs[j]? =some a:=⟨_,List.getElem?_eq_getElem (by omega)⟩
  have hal:=has a (List.mem_of_getElem? hai)
  have hia:=hT.iaddr (i:=(j:Int)) (k:= .i64) (by omega) (by simp;omega)
  have hld:=fun st=> hT.load (st:=st) (i:=j) (o:=0) (n:=4) (agg:=true) (el:=actC a) (by simp[hai]) (by omega) (by omega)
  obtain⟨w,kk,sn,pl⟩:=a
  simp[mkV,ofDs,actC]at hia hld
  obtain⟨tn,tp,ns,b,b8,lab,fs,pv,h0⟩:=h
  have hact:=callW_act8 hp hq hl hr ha hp8 h0.dk (by have:=h0.sm;omega) w kk hal pl
  simp only[actV]at hact
  simp[F391_b1,wS8,hlen,hlt',hia,hld]
  refine hact.mono ?_
  rintro v s1 ⟨x1,x2,L1,L2,j1,j2,rfl,hA⟩
  obtain⟨tn',tp',ns',h1⟩:=h0.act hA
  have o1:=hA.x1.one
  have o2:=hA.x2.one
  have r1:=h1.bk.row
  simp only[Bk.cells]at r1
  have r2:=h1.s8.hp.row
  simp only[S8b.R]at r2
  have t1:=h1.bk.total
  have t2:=h1.s8.total
  have bt:=h1.bt
  have st:=h1.stt
  have w2:IntKind.wrap .i64 (b.total+b8.tot)=b.total+b8.tot:=wrap_i64 (by omega) (by omega)
  by_cases hlt3:b.total+b8.tot < 3000
  · simp[wS8,o1,o2,r1,r2,w2,hlt3]
    refine callW_takeIn hb ho hr h0 hA h1 (by omega) hlt3 _ ?_
    intro s2 hO
    simp[wS8]
    refine hO.mono ?_
    rintro v s3 ⟨rfl,h3⟩
    simp[F391_b1,wS8,w1]
    exact⟨5 - (j+1),by omega,(hJ _ _ _).2 ⟨j+1,hlt,rfl,by simp,h3⟩⟩
  · simp[wS8,o1,o2,r1,r2,w2,hlt3,F391_b1,w1]
    exact⟨5 - (j+1),by omega,(hJ _ _ _).2 ⟨j+1,hlt,rfl,by simp,h1.e⟩⟩
theorem loopOwn0 (hu:SlD 4 u (as.map actC))(hn:as.length≤1048576)(has:∀ a∈as,a.2.2.1.length≤140737488351232){s:St}(h:LE8 s d p m live pb ps 0){Q:Out→Prop}
    (hQ:∀ e s,e.get 7=some (.ptr pb 0)→e.get 8=some (.ptr ps 0)→LE8 s d p m live pb ps (5 * as.length)→Q (.exit 0,e,s)):
    CodeW pr (.loop [1,5,7,8,9] false F391_b0) [(1,u),(5,.ptr d 0),(7,.ptr pb 0),(8,.ptr ps 0),(9,.d (.i .i64 0))] s Q:=by
  have hlen:=hu.len
  rw[List.length_map]at hlen
  obtain⟨J,hJ⟩:∃ J:Nat→Env→St→Prop,∀ n' e s,J n' e s↔∃ i,i≤as.length∧n'=as.length - i∧e= [(1,u),(5,.ptr d 0),(7,.ptr pb 0),(8,.ptr ps 0),(9,.d (.i .i64 (i:Nat)))]∧LE8 s d p m live pb ps (5 * i):=⟨_,fun _ _ _=> Iff.rfl⟩
  refine loopW_j wS8 J ?_ (n:=as.length) ((hJ _ _ _).2 ⟨0,Nat.zero_le _,rfl,by simp,h⟩)
  intro n' e s hj
  obtain⟨i,hi,rfl,rfl,h⟩:=(hJ _ _ _).1 hj
  rcases Nat.lt_or_ge i as.length with hlt | hge
  rotate_left
  · have:i=as.length:=by omega
    subst this
    simp[F391_b0,wS8,hlen]
    exact hQ _ _ (by simp) (by simp) h
  have w1:IntKind.wrap .i64 ((i:Int)+1)=i+1:=wrap_i64 (by omega) (by omega)
  obtain⟨a,hai⟩:∃ a,as[i]? =some a:=⟨_,List.getElem?_eq_getElem hlt⟩
  have hal:=has a (List.mem_of_getElem? hai)
  have hia:=hu.iaddr (i:=(i:Int)) (k:= .i64) (by omega) (by simpa using hlt)
  have hld:=fun st=> hu.load (st:=st) (i:=i) (o:=0) (n:=4) (agg:=true) (el:=actC a) (by simp[hai]) (by omega) (by omega)
  obtain⟨w,kk,sn,pl⟩:=a
  simp[mkV,ofDs,actC]at hia hld
  simp[F391_b0,wS8,hlen,hlt,hia,hld,fillV,lay,ofDs,reps]
  have hT:=dsl_d (c:=actC) (sz:=4) (fun _=> rfl) true [(w,kk,sn,pl),(0,3,[],0),(0,3,[],0),(0,4,[],0),(0,4,[],0)]
  refine loopOwn1 hp hq hl hr ha hp8 hb ho hs hT rfl (fun x hx=> ?_) (by omega) h ?_
  · simp at hx
    rcases hx with rfl | rfl | rfl
    · exact hal
    · simp
    · simp
  intro e s g1 g5 g7 g8 g9 h
  have hfin:J (as.length - (i+1)) [(1,u),(5,.ptr d 0),(7,.ptr pb 0),(8,.ptr ps 0),(9,.d (.i .i64 ((i:Int)+1)))] s:=(hJ _ _ _).2 ⟨i+1,hlt,rfl,by simp,h⟩
  by_cases hrem:(i:Int).tmod 4=3
  · obtain⟨tn,tp,ns,b,b8,lab,fs,pv,h0⟩:=h
    have hh:=den_Holds hb h0.bk
    simp[wS8,g1,g5,g7,g8,g9,hrem,hh]
    refine(callW_Holds8 ho hr h0.s8).mono ?_
    rintro r s' ⟨rfl,rfl⟩
    simp[wS8,F391_b0,w1]
    exact⟨as.length - (i+1),by omega,hfin⟩
  · simp[wS8,g1,g5,g7,g8,g9,hrem,F391_b0,w1]
    exact⟨as.length - (i+1),by omega,hfin⟩
theorem law_StrsOwns {nz1:Bool}{L1:List UInt8}(h1:L1.length≤2097152)(hn:as.length≤1048576)(has:∀ a∈as,a.2.2.1.length≤140737488351232):CallW pr 391 [bsl nz1 L1,dsl actC nz as] st0 fun v s=> v= .d (.b true):=by
  have hd:=dsl_d (c:=actC) (sz:=4) (fun _=> rfl) nz as
  obtain⟨u,hu⟩:∃ u,u=dsl actC nz as:=⟨_,rfl⟩
  rw[← hu]at hd ⊢
  refine .run wS8 (hs.at 0 rfl) rfl ?_
  rw[start_raw _ rfl]
  refine codeC_of ?_
  obtain⟨s1,kx,x1,x2,x3,x4,x5,x6⟩:=den_open hp hq hr ha (st:=st0) (nz:=nz1) (L:=L1) rfl rfl (by omega)
  have hfl:s1.floor=0:=x2.fl
  obtain⟨s2,hs2⟩:∃ s2,s2=s1.push (.row [.d (.i .i64 0),.d (.i .i64 0),.d (.b false),.d (.sl 0 false []),.d (.sl 0 false []),.d (.sl 0 false []),.d (.sl 0 false []),.d (.sl 0 false [])]):=⟨_,rfl⟩
  obtain⟨s3,hs3⟩:∃ s3,s3=s2.push (.row [.d (.i .i64 0),.d (.i .i64 0),.d (.b false),.d (.sl 0 false []),.d (.sl 0 false []),.d (.sl 0 false []),.d (.sl 0 false [])]):=⟨_,rfl⟩
  have l2:s2.heap.length=s1.heap.length+1:=by rw[hs2];simp
  have l3:s3.heap.length=s1.heap.length+2:=by rw[hs3];simp[l2]
  have hE:LE8 s3 kx.d kx.p kx.m kx.live s1.heap.length (s1.heap.length+1) 0:=by
    have hdk:Dsk s3 kx.d kx.p kx.m kx.tn kx.tp kx.live kx.ns:=by
      rw[hs3,hs2]
      exact(x2.gr (A:=fun _=> False) (P:=fun _=> True) (.push _) fun _ _=> id).gr (A:=fun _=> False) (P:=fun _=> True) (.push _) fun _ _=> id
    have hDR:∀ r,DR kx.d kx.p kx.m kx.live r→r < s1.heap.length:=fun r hr=> x2.rlt hr
    -- an empty shelf
    have hq0:Hq s3 (s1.heap.length+1) [.d (.i .i64 0),.d (.i .i64 0),.d (.b false),.d (.sl 0 false []),.d (.sl 0 false []),.d (.sl 0 false []),.d (.sl 0 false [])] (fun c=> if c=0 then some (s1.heap.length+1) else none) (fun _=> none) [] []:=by
      refine⟨by rw[hs3,hs2];exact hfl,by rw[hs3];exact row_push_new l2.symm,rfl,rfl,fun a x h=> (by cases h),⟨fun a r h=> ?_,fun a d r ha hd=> ?_⟩,fun x h=> (by cases h),fun x h=> (by cases h)⟩
      · split at h
        · obtain rfl:=Option.some.inj h
          omega
        · cases h
      · split at ha
        · split at hd
          · omega
          · cases hd
        · cases ha
    have hq1:=(((hq0.nil (a:=1) (sz:=1) (by omega)).nil (a:=2) (sz:=1) (by omega)).nil (a:=4) (sz:=1) (by omega)).nil (a:=5) (sz:=1) (by omega)
    obtain⟨lab0,fs0,hI0,hlab⟩:∃ lab0 fs0,S8 s3 (s1.heap.length+1) ⟨0,0,.d (.sl 0 false []),.d (.sl 0 false []),.d (.sl 0 false []),.d (.sl 0 false []),[],[],[],[]⟩ lab0 fs0 [] []∧∀ a r,lab0 a=some r→r=s1.heap.length+1:=by
      refine⟨_,_,⟨hq1,?_,?_,?_,?_,fun i x h=> (by simp at h),fun i x h hx=> (by simp at hx),fun i k w h=> (by simp at h),fun e he=> ?_,⟨Nat.zero_le _,Nat.zero_le _⟩,⟨Int.le_refl _,by simp⟩⟩,fun a r h=> ?_⟩
      · simp[updF]
      · simp[updF]
      · simp[updF]
      · simp[updF]
      · simp at he
        have h0:e≠0:=by omega
        have h1:e≠1:=by omega
        have h2:e≠2:=by omega
        have h4:e≠4:=by omega
        have h5:e≠5:=by omega
        simp[updF,upd,h0,h1,h2,h4,h5]
      · simp only[upd]at h
        repeat' split at h
        all_goals first
          | exact(Option.some.inj h).symm
          | cases h
    have hap:∀ r,r≠s1.heap.length+1→Ap' lab0 [] r:=fun r hr=> ⟨fun a e=> hr (hlab a r e),fun y hy=> by cases hy⟩
    have hbl:∀ a r,Bk.lab ⟨0,0,.d (.sl 0 false []),.d (.sl 0 false []),.d (.sl 0 false []),.d (.sl 0 false []),.d (.sl 0 false []),none,none,none,none,none,[],[],[],[]⟩ s1.heap.length a=some r→a=0∧r=s1.heap.length:=by
      intro a r h
      match a,h with
      | 0,h=> exact⟨rfl,(Option.some.inj h).symm⟩
      | 1,h=> cases h
      | 2,h=> cases h
      | 3,h=> cases h
      | 4,h=> cases h
      | 5,h=> cases h
      | a+6,h=> simp[Bk.lab]at h
    have hbr:∀ r,BRs s1.heap.length ⟨0,0,.d (.sl 0 false []),.d (.sl 0 false []),.d (.sl 0 false []),.d (.sl 0 false []),.d (.sl 0 false []),none,none,none,none,none,[],[],[],[]⟩ r→r=s1.heap.length:=by
      rintro r (⟨a,h⟩ | ⟨v,hv,_⟩)
      · exact(hbl a r h).2
      · simp at hv
    have hrowB:s3.row s1.heap.length=some [.d (.i .i64 0),.d (.i .i64 0),.d (.b false),.d (.sl 0 false []),.d (.sl 0 false []),.d (.sl 0 false []),.d (.sl 0 false []),.d (.sl 0 false [])]:=by
      rw[hs3,row_old (by omega),hs2];exact row_push_new rfl
    have hbk:BkI s3 s1.heap.length ⟨0,0,.d (.sl 0 false []),.d (.sl 0 false []),.d (.sl 0 false []),.d (.sl 0 false []),.d (.sl 0 false []),none,none,none,none,none,[],[],[],[]⟩:=by
      refine⟨by rw[hs3,hs2];exact hfl,hrowB,.nil _ _,.nil _ _,.nil _ _,.nil _ _,.nil _ _,fun x hx=> (List.not_mem_nil hx).elim,fun i k w hk=> (by simp at hk),fun a c i ha hc=> ?_,fun v hv=> (by simp at hv),⟨by simp,by simp⟩,fun x hx=> (List.not_mem_nil hx).elim,Int.le_refl _⟩
      rw[(hbl a i ha).1,(hbl c i hc).1]
    refine⟨kx.tn,kx.tp,kx.ns,_,_,lab0,fs0,[],⟨hdk,by omega,hbk,Nat.zero_le _,Nat.zero_le _,by simp,hI0,Nat.zero_le _,Nat.zero_le _,by simp,fun r hr hbr'=> ?_,fun r hr=> hap r ?_,fun r hr=> hap r ?_⟩⟩
    · have:=hbr r hbr'
      have:=hDR r hr
      omega
    · have:=hDR r hr
      omega
    · have:=hbr r hr
      omega
  have haw:=fun st=> den_awake8 hp hq hl (st:=st)
  simp[F391,wS8,x1,ofDs,fillV,lay,← hs2,← hs3,l2]
  refine loopOwn0 hp hq hl hr ha hp8 hb ho hs hd hn has hE ?_
  intro e s g7 g8 h
  obtain⟨tn,tp,ns,b,b8,lab,fs,pv,h0⟩:=h
  have hh:=den_Holds hb h0.bk
  simp[wS8,g7,g8,hh]
  refine(callW_Holds8 ho hr h0.s8).mono ?_
  rintro r s' ⟨rfl,rfl⟩
  simp[wS8,haw,FinW]
end
end Go.Sh
