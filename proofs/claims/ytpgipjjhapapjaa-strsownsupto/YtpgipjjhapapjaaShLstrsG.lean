/- Part of the proof. -/
import Derived.Test.YtpgipjjhapapjaaShLstrsF
import Derived.Test.YtpgipjjhapapjaaShFref8
set_option linter.unusedVariables false
set_option linter.unusedSimpArgs false
namespace Go.Sh
def ref8Fns:List (Nat×SFn):= [(171,F171),(172,F172),(164,F164),(165,F165),(168,F168),(162,F162),(167,F167),(35,F35),(12,F12)]
def refT (nz:Bool)(ns:List Nm):V:= .agg [.d (.sl ns.length nz (ns.map .s))]
theorem names_get {nz:Bool}{ns:List Nm}{i:Nat}{x:Nm}(h:ns[i]? =some x){k:IntKind}:iaddrV 1 (.d (.sl ns.length nz (ns.map .s))) (.d (.i k (i:Int)))=some (.ep ((ns.map D.s).drop i))∧∀ s,loadV 1 false s (.ep ((ns.map D.s).drop i))=some (.d (.s x)):=by
  have hlt:=(List.getElem?_eq_some_iff.1 h).1
  have hd:(ns.map D.s).drop i= .s x::(ns.map D.s).drop (i+1):=by
    rw[List.drop_eq_getElem_cons (by simpa using hlt)]
    congr 1
    simp only[List.getElem_map]
    rw[(List.getElem?_eq_some_iff.1 h).2]
  refine⟨by simp[iaddrV,hlt],fun s=> ?_⟩
  rw[hd]
  simp[loadV,mkV,ofDs]
theorem endAt_mono {a:Nat}{ns:List Nm}{i:Nat}:endAt a (ns.take i)≤endAt a ns:=by
  conv=> rhs;rw[← List.take_append_drop i ns,endAt_app]
  exact Nat.le_trans (Nat.le_add_right _ _) endAt_ge
theorem drop_cons {α:Type}{l:List α}{i:Nat}{x:α}(h:l[i]? =some x):l.drop i=x::l.drop (i+1):=by
  rw[List.drop_eq_getElem_cons (List.getElem?_eq_some_iff.1 h).1,(List.getElem?_eq_some_iff.1 h).2]
theorem take_snoc {α:Type}{l:List α}{i:Nat}{x:α}(h:l[i]? =some x):l.take (i+1)=l.take i++ [x]:=by rw[List.take_add_one,h];rfl
section
variable {pr:Prog}(hr:Sub ref8Fns pr){st:St}
include hr
theorem den_refNamed {s:List UInt8}(hl:s.length≤140737488351232):den pr 171 [.d (.s s)] st=some (.d (.b (okNm s)),st):=by
  refine den_shut (hr.at 0 rfl) rfl rfl (by simp;rfl) ?_
  simp[F171]
  generalize hL:cden pr (.loop _ _ _) _ _=o
  obtain⟨J2,hJ2⟩:∃ J2:Out→Prop,∀ r,J2 r↔((∃ e,r=(.exit 0,e,s0 [] [] 0 0)∧e.get 0=some (.d (.s s))∧s.contains 0=false)∨(∃ e,r=(.ret,e,s0 [] [] 0 0)∧e.get 2=some (.d (.b false))∧s.contains 0=true)):=⟨_,fun _=> Iff.rfl⟩
  have key:∃ r,o=some r∧J2 r:=by
    rw[← hL]
    obtain⟨J,hJ⟩:∃ J:Nat→Env→St→Prop,∀ n e z,J n e z↔∃ i:Nat,i≤s.length∧n=s.length - i∧e= [(0,.d (.s s)),(3,.d (.i .i64 (i:Nat)))]∧z=s0 [] [] 0 0∧(s.take i).contains 0=false:=⟨_,fun _ _ _=> Iff.rfl⟩
    refine loop_j J ?_ (n:=s.length) ((hJ _ _ _).2 ⟨0,Nat.zero_le _,rfl,by simp,rfl,by simp⟩)
    intro n e z h
    obtain⟨i,hi,rfl,rfl,rfl,hc⟩:=(hJ _ _ _).1 h
    rcases Nat.lt_or_ge i s.length with hlt | hge
    · obtain⟨x,hx⟩:∃ x,s[i]? =some x:=⟨_,List.getElem?_eq_getElem hlt⟩
      have w1:IntKind.wrap .i64 ((i:Int)+1)=i+1:=wrap_i64 (by omega) (by omega)
      by_cases h0:x=0
      · subst h0
        have hm:s.contains 0=true:=by rw[List.contains_eq_mem];exact decide_eq_true (List.mem_of_getElem? hx)
        have hxe:s[i]=0:=(List.getElem?_eq_some_iff.1 hx).2
        simp[F171_b0,hlt,idxSV,hxe]
        exact(hJ2 _).2 (.inr ⟨_,rfl,by simp,hm⟩)
      · have hxn:¬ (x.toNat=0):=by
          intro e
          apply h0
          have:x.toNat=(0:UInt8).toNat:=by simpa using e
          exact UInt8.toNat_inj.1 this
        have hxe:s[i]=x:=(List.getElem?_eq_some_iff.1 hx).2
        simp[F171_b0,hlt,idxSV,hxe,hxn,w1]
        refine⟨s.length - (i+1),by omega,(hJ _ _ _).2 ⟨i+1,by omega,rfl,rfl,rfl,?_⟩⟩
        rw[take_snoc hx]
        simp only[List.contains_eq_mem,decide_eq_false_iff_not,List.mem_append,List.mem_singleton,not_or]at hc ⊢
        exact⟨hc,fun e=> h0 e.symm⟩
    · have:i=s.length:=by omega
      subst this
      simp[F171_b0]
      rw[List.take_length]at hc
      exact(hJ2 _).2 (.inl ⟨_,rfl,by simp,hc⟩)
  obtain⟨r,rfl,key⟩:=key
  rcases(hJ2 _).1 key with⟨e,rfl,e0,hc⟩ | ⟨e,rfl,e2,hc⟩
  · have hok:okNm s=(decide (1≤s.length) && decide (s.length≤64)):=by
      unfold okNm
      rw[hc]
      simp
      rfl
    by_cases h1:1≤s.length
    · have h1':(1:Int)≤s.length:=by omega
      by_cases h2:s.length≤64
      · have h2':(s.length:Int)≤64:=by omega
        simp[e0,h1',h2',hok,h1,h2]
      · have h2':¬ (s.length:Int)≤64:=by omega
        simp[e0,h1',h2',hok,h1,h2]
    · have h1':¬ (1:Int)≤s.length:=by omega
      simp[e0,h1',hok,h1]
  · have hok:okNm s=false:=by
      unfold okNm
      rw[hc]
      simp
    simp[e2,hok]
theorem den_place {w:V}{nz:Bool}{ns:List Nm}(hw:close1 w=some (refT nz ns))(hb:endAt 1 ns≤1099511627776)(s:List UInt8):den pr 172 [w,.d (.s s)] st=some (.d (.i .i64 ((findNm s 1 ns).getD 0:Nat)),st):=by
  have hge:=endAt_ge (a:=1) (ns:=ns)
  refine den_shut (as:= [refT nz ns,.d (.s s)]) (hr.at 1 rfl) rfl rfl (by simp[hw]) ?_
  simp[F172,refT]
  generalize hL:cden pr (.loop _ _ _) _ _=o
  obtain⟨T,hT⟩:∃ T:V,T= .d (.sl ns.length nz (ns.map .s)):=⟨_,rfl⟩
  have hTl:lenV T=some ns.length:=by rw[hT];rfl
  obtain⟨J2,hJ2⟩:∃ J2:Out→Prop,∀ r,J2 r↔((∃ e,r=(.exit 0,e,s0 [.row [T]] [] 0 0)∧findNm s 1 ns=none)∨(∃ e q,r=(.ret,e,s0 [.row [T]] [] 0 0)∧e.get 4=some (.d (.i .i64 (q:Nat)))∧findNm s 1 ns=some q)):=⟨_,fun _=> Iff.rfl⟩
  have key:∃ r,o=some r∧J2 r:=by
    rw[← hL,← hT]
    obtain⟨J,hJ⟩:∃ J:Nat→Env→St→Prop,∀ n e z,J n e z↔∃ i:Nat,i≤ns.length∧n=ns.length - i∧e= [(1,.d (.s s)),(2,.ptr 0 0),(5,.d (.i .i64 (endAt 1 (ns.take i):Nat))),(6,.d (.i .i64 (i:Nat)))]∧z=s0 [.row [T]] [] 0 0∧findNm s 1 ns=findNm s (endAt 1 (ns.take i)) (ns.drop i):=⟨_,fun _ _ _=> Iff.rfl⟩
    refine loop_j J ?_ (n:=ns.length) ((hJ _ _ _).2 ⟨0,Nat.zero_le _,rfl,by simp[endAt],rfl,by simp[endAt]⟩)
    intro n e z h
    obtain⟨i,hi,rfl,rfl,rfl,hc⟩:=(hJ _ _ _).1 h
    rcases Nat.lt_or_ge i ns.length with hlt | hge2
    · obtain⟨x,hx⟩:∃ x,ns[i]? =some x:=⟨_,List.getElem?_eq_getElem hlt⟩
      have w1:IntKind.wrap .i64 ((i:Int)+1)=i+1:=wrap_i64 (by omega) (by omega)
      obtain⟨g1,g2⟩:=names_get (nz:=nz) hx (k:= .i64)
      rw[← hT]at g1
      have hm:=endAt_mono (a:=1) (ns:=ns) (i:=i+1)
      have he:endAt 1 (ns.take (i+1))=endAt 1 (ns.take i)+x.length+1:=by rw[take_snoc hx,endAt_snoc]
      rw[drop_cons hx]at hc
      simp only[findNm]at hc
      obtain⟨E,hE⟩:∃ E,E=endAt 1 (ns.take i):=⟨_,rfl⟩
      rw[← hE]at he hc
      have w2:IntKind.wrap .i64 ((E:Int)+x.length)=E+x.length:=wrap_i64 (by omega) (by omega)
      have w3:IntKind.wrap .i64 ((E:Int)+x.length+1)=E+x.length+1:=wrap_i64 (by omega) (by omega)
      by_cases hxs:x=s
      · rw[if_pos hxs]at hc
        simp[F172_b0,hTl,hlt,g1,g2,hxs,← hE]
        exact(hJ2 _).2 (.inr ⟨_,E,rfl,by simp,hc⟩)
      · rw[if_neg hxs]at hc
        have hxb:(x==s)=false:=by simpa using hxs
        simp[F172_b0,hTl,hlt,g1,g2,hxb,← hE,w1,w2,w3]
        refine⟨ns.length - (i+1),by omega,(hJ _ _ _).2 ⟨i+1,by omega,rfl,?_,rfl,?_⟩⟩
        · simp[he]
        · rw[he];exact hc
    · have:i=ns.length:=by omega
      subst this
      simp[F172_b0,hTl]
      refine(hJ2 _).2 (.inl ⟨_,rfl,?_⟩)
      rw[hc,List.drop_length]
      rfl
  obtain⟨r,rfl,key⟩:=key
  rcases(hJ2 _).1 key with⟨e,rfl,hc⟩ | ⟨e,q,rfl,e4,hc⟩
  · simp[hc]
  · simp[e4,hc]
theorem den_refAdd {nz:Bool}{ns:List Nm}(hnz:nz=false→ns= [])(hb:endAt 1 ns≤1099511600000){s:List UInt8}(hl:s.length≤140737488351232):
    ∃ nz',den pr 164 [refT nz ns,.d (.s s)] st=some (.tup (if okNm s=false then [refT nz ns,.d (.i .i64 0),.d (.i .i64 81)]else match findNm s 1 ns with
      | some q=> [refT nz ns,.d (.i .i64 (q:Nat)),.d (.i .i64 0)]
      | none=> [refT nz' (ns++ [s]),.d (.i .i64 (endAt 1 ns:Nat)),.d (.i .i64 0)]),st)∧(nz'=false→ns++ [s]= []):=by
  have hge:=endAt_ge (a:=1) (ns:=ns)
  have hnamed:=fun st=> den_refNamed hr (st:=st) hl
  have hpl:=fun st=> den_place hr (st:=st) (w:=refT nz ns) (nz:=nz) (ns:=ns) (by simp[refT]) (by omega) s
  cases hok:okNm s with
  | false=>
    refine⟨true,?_,nofun⟩
    simp only[if_true]
    refine den_shut (as:= [refT nz ns,.d (.s s)]) (hr.at 2 rfl) rfl rfl (by simp[refT]) ?_
    simp[F164,refT,hnamed,hok,ofDs,lay]
  | true=>
    have hsl:=okNm_len hok
    simp only[Bool.true_eq_false,if_false]
    cases hf:findNm s 1 ns with
    | some q=>
      refine⟨true,?_,nofun⟩
      simp only
      have hq1:1≤q:=by
        obtain⟨i,_,rfl⟩:=findNm_some hf
        have:=endAt_ge (a:=1) (ns:=ns.take i)
        omega
      have hq1':¬ (q=0):=by omega
      refine den_shut (as:= [refT nz ns,.d (.s s)]) (hr.at 2 rfl) rfl rfl (by simp[refT]) ?_
      rw[hf]at hpl
      have hq2:(0:Int) < q:=by omega
      have hq3:0 < q:=by omega
      simp only[refT,Option.getD_some]at hpl ⊢
      simp[F164,hnamed,hok,ofDs,lay,hpl,hq2,hq3]
    | none=>
      refine⟨true,?_,nofun⟩
      simp only
      rw[hf]at hpl
      have hn:=findNm_none.1 hf
      have hpl2:∀ (k t:Nat) st,k=ns.length→den pr 172 [.agg [.own 1 (k+1) true (ns.map D.s++ [.s s]) t],.d (.s s)] st=some (.d (.i .i64 (endAt 1 ns:Nat)),st):=by
        rintro k t st rfl
        have:=den_place hr (st:=st) (w:= .agg [.own 1 (ns.length+1) true (ns.map D.s++ [.s s]) t]) (nz:=true) (ns:=ns++ [s]) (by simp[refT]) (by rw[endAt_snoc];omega) s
        rw[this,findNm_app,hf]
        simp[findNm]
      have b1:ns.length * 16≤140737488355328:=by omega
      have b2:ns.length≤140737488355328:=by omega
      have b3:(ns.length+1) * 16≤140737488355328:=by omega
      have b4:ns.length+1≤140737488355328:=by omega
      refine den_shut (as:= [refT nz ns,.d (.s s)]) (hr.at 2 rfl) rfl rfl (by simp[refT]) ?_
      simp only[refT,Option.getD_none]at hpl ⊢
      rcases Nat.eq_zero_or_pos ns.length with h0 | h0
      · have:ns= []:=List.eq_nil_of_length_eq_zero h0
        subst this
        have hp2:=fun t st=> hpl2 0 t st rfl
        simp at hp2 hpl
        simp[F164,hnamed,hok,ofDs,lay,reps,fillV,hpl,appV,vw,hp2]
      · have hne:ns≠ []:=fun e=> by rw[e]at h0;simp at h0
        have hp2:=fun t st=> hpl2 ns.length t st rfl
        simp[F164,hnamed,hok,ofDs,lay,reps,fillV,hpl,appV,vw,b1,b2,b3,b4,h0,hne,hp2]
end
end Go.Sh
