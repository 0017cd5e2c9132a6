/- Part of the proof. -/
import Derived.Test.YtpgipjjhapapjaaShLstrsH
set_option linter.unusedVariables false
set_option linter.unusedSimpArgs false
namespace Go.Sh
def rT (ns:List Nm):V:=if ns= []then .d (.sl 0 false []) else .own 1 ns.length true (ns.map .s) 0
def rTok (ns:List Nm):List Nat:=if ns= []then []else [ns.length]
theorem rT_close (ns:List Nm):close1 (.agg [rT ns])=some (refT (decide (ns≠ [])) ns):=by
  unfold rT refT
  by_cases h:ns= []
  · subst h;simp
  · simp[h]
theorem rT_app {ns:List Nm}{s:Nm}(hb:ns.length+1≤1099511627776)(bs:List Blk):appV 1 16 (s0 bs (rTok ns) 0 0) (rT ns) (.d (.sl 1 true [.s s]))=some (rT (ns++ [s]),s0 bs (rTok (ns++ [s])) 0 0):=by
  unfold rT rTok
  have b1:(ns.length+1) * 16≤140737488355328:=by omega
  have b2:ns.length+1≤140737488355328:=by omega
  by_cases h:ns= []
  · subst h;simp[appV,vw]
  · simp[h,appV,vw,b1,b2]
theorem rdNm_fuel:∀ (k1 k2:Nat) (ns:List Nm) (a:Nat) (t:List UInt8),t.length≤k1→t.length≤k2→rdNm k1 ns a t=rdNm k2 ns a t:=by
  intro k1
  induction k1 with
  | zero=>
    intro k2 ns a t h1 h2
    have:t= []:=List.eq_nil_of_length_eq_zero (by omega)
    subst this
    cases k2 <;> simp[rdNm]
  | succ k1 ih=>
    intro k2 ns a t h1 h2
    cases k2 with
    | zero=>
      have:t= []:=List.eq_nil_of_length_eq_zero (by omega)
      subst this
      simp[rdNm]
    | succ k2=>
      unfold rdNm
      split
      · rfl
      · split
        · rfl
        · rename_i h0 _
          have:0 < t.length:=List.length_pos_iff.2 h0
          exact ih k2 _ _ _ (by rw[List.length_drop];omega) (by rw[List.length_drop];omega)
def refRd (L:List UInt8):V:=match readB L with
  | (none,q)=> .tup [refT false [],.d (.i .i64 (q:Nat)),.d (.i .i64 80)]
  | (some ns,_)=> .tup [refT (decide (ns≠ [])) ns,.d (.i .i64 0),.d (.i .i64 0)]
theorem toZero_get {r:List UInt8}{i:Nat}(h:i < (toZero r).length):∃ x,r[i]? =some x∧x≠0:=by
  have h1:(toZero r)[i]? =r[i]? :=by
    have h2:=toZero_take r
    conv=> lhs;rw[← h2]
    rw[List.getElem?_take,if_pos h]
  obtain⟨x,hx⟩:∃ x,(toZero r)[i]? =some x:=⟨_,List.getElem?_eq_getElem h⟩
  refine⟨x,h1 ▸ hx,?_⟩
  have h2:=toZero_no r
  rintro rfl
  have:=List.mem_of_getElem? hx
  rw[List.contains_eq_mem]at h2
  simp[this]at h2
theorem bsl_get {nz:Bool}{L:List UInt8}{i:Nat}{b:UInt8}(h:L[i]? =some b):∃ p,iaddrV 1 (bsl nz L) (.d (.i .i64 (i:Int)))=some p∧∀ s,loadV 1 false s p=some (.d (.i .u8 b.toNat)):=⟨_,bsl_iaddr h⟩
theorem u8_ne {x:UInt8}(h:x≠0):¬ (x.toNat=0):=by
  intro e
  apply h
  have:x.toNat=(0:UInt8).toNat:=by simpa using e
  exact UInt8.toNat_inj.1 this
section
variable {pr:Prog}(hr:Sub ref8Fns pr){st:St}
include hr
theorem den_refRead {nz:Bool}{L:List UInt8}(hL:L.length≤1099511600000):den pr 162 [bsl nz L] st=some (refRd L,st):=by
  have hlen:lenV (bsl nz L)=some L.length:=rfl
  refine den_shut (as:= [bsl nz L]) (hr.at 5 rfl) rfl rfl (by simp) ?_
  have hbad:∀ q,readB L=(none,q)→refRd L= .tup [.agg [.d (.sl 0 false [])],.d (.i .i64 (q:Nat)),.d (.i .i64 80)]:=fun q hr=> by unfold refRd;rw[hr];rfl
  cases L with
  | nil=>
    rw[hbad 0 rfl]
    simp[F162,fillV,lay,ofDs]
  | cons x r=>
    obtain⟨a0,g1,g2⟩:=bsl_get (nz:=nz) (L:=x::r) (i:=0) (b:=x) rfl
    have hlp:¬ ((r.length:Int)+1=0):=by omega
    by_cases hx:x=0
    rotate_left
    · rw[hbad 0 (readB_none fun r' e=> hx (by simp at e;exact e.1))]
      have hxn:=u8_ne hx
      simp at g1
      simp[F162,fillV,lay,ofDs,hlp,g1,g2,hxn]
    subst hx
    simp at g1
    obtain⟨W,hW⟩:∃ W:List UInt8,W=0::r:=⟨_,rfl⟩
    have hrd:readB (0::r)=rdNm r.length [] 1 r:=by simp[readB]
    simp[F162,fillV,lay,ofDs,hlp,g1,g2]
    generalize hLo:cden pr (.loop _ _ _) _ _=o
    obtain⟨J2,hJ2⟩:∃ J2:Out→Prop,∀ rr,J2 rr↔((∃ e ns,rr=(.exit 0,e,s0 [.row [.d (.sl 0 false [])],.row [rT ns]] (rTok ns) 0 0)∧e.get 2=some (.ptr 0 0)∧e.get 5=some (.ptr 1 0)∧readB (0::r)=(some ns,0))∨
      (∃ e q s,rr=(.ret,e,s)∧s.row 0=some [.d (.sl 0 false [])]∧e.get 2=some (.ptr 0 0)∧e.get 3=some (.d (.i .i64 (q:Nat)))∧e.get 4=some (.d (.i .i64 80))∧readB (0::r)=(none,q))):=⟨_,fun _=> Iff.rfl⟩
    have key:∃ rr,o=some rr∧J2 rr:=by
      rw[← hLo,← hW]
      obtain⟨J,hJ⟩:∃ J:Nat→Env→St→Prop,∀ n e s,J n e s↔∃ ns:List Nm,n+endAt 1 ns=W.length∧e= [(0,bsl nz W),(2,.ptr 0 0),(5,.ptr 1 0),(6,.d (.i .i64 (endAt 1 ns:Nat)))]∧s=s0 [.row [.d (.sl 0 false [])],.row [rT ns]] (rTok ns) 0 0∧(∀ k,n≤k→readB W=rdNm k ns (endAt 1 ns) (W.drop (endAt 1 ns))):=⟨_,fun _ _ _=> Iff.rfl⟩
      refine loop_j J ?_ (n:=r.length) ((hJ _ _ _).2 ⟨[],by simp[endAt,hW],by simp[endAt],rfl,fun k hk=> by rw[hW,hrd];exact rdNm_fuel _ _ _ _ _ (Nat.le_refl _) hk⟩)
      intro n e s hJn
      obtain⟨ns,hn,rfl,rfl,hrdk⟩:=(hJ _ _ _).1 hJn
      clear hJn
      have hge:=endAt_ge (a:=1) (ns:=ns)
      have hN1:=hrdk n (Nat.le_refl _)
      rw[← hW]at hL
      have hcl:=rT_close ns
      have hpl:=fun st s=> den_place hr (st:=st) hcl (by omega) s
      obtain⟨E,hE⟩:∃ E,E=endAt 1 ns:=⟨_,rfl⟩
      rw[← hE]at hn hge hN1 ⊢
      have hbl:lenV (bsl nz W)=some W.length:=rfl
      rcases Nat.lt_or_ge E W.length with hlt | hge2
      rotate_left
      · have hEe:E=W.length:=by omega
        have hnE:¬ ((E:Int) < W.length):=by omega
        simp[F162_b0,hbl,hnE]
        refine(hJ2 _).2 (.inl ⟨_,ns,rfl,by simp,by simp,?_⟩)
        rw[← hW,hN1,hEe,List.drop_length]
        have:n=0:=by omega
        subst this
        rfl
      have hltE:(E:Int) < W.length:=by omega
      obtain⟨n',rfl⟩:∃ n',n=n'+1:=⟨n - 1,by omega⟩
      obtain⟨R,hR⟩:∃ R,R=W.drop E:=⟨_,rfl⟩
      rw[← hR]at hN1
      have hRl:R.length=W.length - E:=by rw[hR,List.length_drop]
      have hRne:R≠ []:=fun e=> by rw[e]at hRl;simp at hRl;omega
      have hzl:=toZero_len R
      obtain⟨z,hz⟩:∃ z,z=(toZero R).length:=⟨_,rfl⟩
      rw[← hz]at hzl
      unfold rdNm at hN1
      rw[if_neg hRne,← hz]at hN1
      -- looking for a zero
      simp[F162_b0,hltE]
      generalize hLi:cden pr (.loop _ _ _) _ _=o2
      have key2:∃ r2,o2=some r2∧∃ e,r2=(.exit 2,e,s0 [.row [.d (.sl 0 false [])],.row [rT ns]] (rTok ns) 0 0)∧e.get 0=some (bsl nz W)∧e.get 2=some (.ptr 0 0)∧e.get 5=some (.ptr 1 0)∧e.get 6=some (.d (.i .i64 (E:Nat)))∧e.get 7=some (.d (.i .i64 ((E+z:Nat):Int))):=by
        rw[← hLi]
        refine loop_n z (fun i=> [(0,bsl nz W),(2,.ptr 0 0),(5,.ptr 1 0),(6,.d (.i .i64 (E:Nat))),(7,.d (.i .i64 ((E+i:Nat):Int)))]) (fun _=> s0 [.row [.d (.sl 0 false [])],.row [rT ns]] (rTok ns) 0 0) ?_ (by simp) rfl
        intro i hi
        rcases Nat.lt_or_ge i z with hiz | hiz
        · obtain⟨y,hy,hy0⟩:=toZero_get (r:=R) (i:=i) (by omega)
          rw[hR,List.getElem?_drop]at hy
          obtain⟨a1,c1,c2⟩:=bsl_get (nz:=nz) hy
          have hyn:=u8_ne hy0
          have w1:IntKind.wrap .i64 ((E:Int)+(i:Int)+1)=(E:Int)+(i+1):=by rw[wrap_i64 (by omega) (by omega)];omega
          have hlt3:(E:Int)+i < W.length:=by omega
          simp at c1
          simp[F162_b1,hbl,hlt3,c1,c2,hyn,w1,hiz]
        · have hiz':i=z:=by omega
          subst hiz'
          rcases Nat.lt_or_ge (E+i) W.length with h1 | h1
          · have hy:=toZero_zero (r:=R) (by omega)
            rw[← hz,hR,List.getElem?_drop]at hy
            obtain⟨a1,c1,c2⟩:=bsl_get (nz:=nz) hy
            have hlt3:(E:Int)+i < W.length:=by omega
            simp at c1
            simp[F162_b1,hbl,hlt3,c1,c2]
          · have hlt3:¬ (E:Int)+i < W.length:=by omega
            simp[F162_b1,hbl,hlt3]
      obtain⟨r2,rfl,e,rfl,e0,e2,e5,e6,e7⟩:=key2
      have hsl:=bsl_slc nz W (lo:=some (.d (.i .i64 (E:Nat)))) (hi:=some (.d (.i .i64 ((E+z:Nat):Int)))) (a:=E) (b:=E+z) rfl rfl (by omega) (by omega)
      have hname:(W.take (E+z)).drop E=toZero R:=by
        rw[List.drop_take,Nat.add_sub_cancel_left,← hR,hz,toZero_take]
      rw[hname]at hsl
      have hnm:=fun st=> den_refNamed hr (st:=st) (s:=toZero R) (by omega)
      have hpl:=fun st=> hpl st (toZero R)
      have hok:okNm (toZero R)=(decide (0 < z) && decide (z≤64)):=by
        unfold okNm
        rw[toZero_no,← hz]
        simp
      have hret:∀ (e':Env) s,s.row 0=some [.d (.sl 0 false [])]→e'.get 2=some (.ptr 0 0)→e'.get 3=some (.d (.i .i64 (E:Nat)))→e'.get 4=some (.d (.i .i64 80))→readB W=(none,E)→J2 (.ret,e',s):=fun e' s h0 h2 h3 h4 h=> (hJ2 _).2 (.inr ⟨e',E,s,rfl,h0,h2,h3,h4,by rw[← hW];exact h⟩)
      simp at e7 hsl
      by_cases hc0:okNm (toZero R)=false
      · have hf:z=R.length∨z=0∨64 < z∨toZero R∈ns:=by
          rw[hok]at hc0
          simp at hc0
          omega
        rw[if_pos hf]at hN1
        simp[e0,e2,e5,e6,e7,hsl,hnm,hc0,fillV,lay,ofDs]
        exact hret _ _ (by first | rfl | simp) (by first | rfl | simp) (by first | rfl | simp) (by first | rfl | simp) hN1
      have hc0:okNm (toZero R)=true:=by simpa using hc0
      by_cases hc1:z=R.length
      · rw[if_pos (.inl hc1)]at hN1
        have hE1:decide ((E:Int)+z=W.length)=true:=decide_eq_true (by omega)
        simp[e0,e2,e5,e6,e7,hsl,hnm,hc0,fillV,lay,ofDs,hbl,hE1]
        exact hret _ _ (by first | rfl | simp) (by first | rfl | simp) (by first | rfl | simp) (by first | rfl | simp) hN1
      have hE1:¬ (E:Int)+z=W.length:=by omega
      have hz0:0 < z∧z≤64:=by
        rw[hok]at hc0
        simpa using hc0
      by_cases hc2:toZero R∈ns
      · rw[if_pos (.inr (.inr (.inr hc2)))]at hN1
        obtain⟨q,hq⟩:∃ q,findNm (toZero R) 1 ns=some q:=by
          cases hf:findNm (toZero R) 1 ns with
          | none=> exact absurd hc2 (findNm_none.1 hf)
          | some q=> exact⟨q,rfl⟩
        have hq1:0 < q:=by
          obtain⟨i,_,rfl⟩:=findNm_some hq
          have:=endAt_ge (a:=1) (ns:=ns.take i)
          omega
        rw[hq]at hpl
        simp at hpl
        simp[e0,e2,e5,e6,e7,hsl,hnm,hc0,fillV,lay,ofDs,hbl,hE1,hpl,hq1]
        exact hret _ _ (by first | rfl | simp) (by first | rfl | simp) (by first | rfl | simp) (by first | rfl | simp) hN1
      rw[findNm_none.2 hc2]at hpl
      simp at hpl
      rw[if_neg (by rintro(h | h | h | h) <;> first | omega | exact hc2 h)]at hN1
      have happ:=rT_app (ns:=ns) (s:=toZero R) (by omega) [.row [.d (.sl 0 false [])],.row [rT ns]]
      have w1:IntKind.wrap .i64 ((E:Int)+z+1)=(E:Int)+z+1:=wrap_i64 (by omega) (by omega)
      have hrc:(rT (ns++ [toZero R])).ok1=true∧(rT (ns++ [toZero R])).cs= [rT (ns++ [toZero R])]:=by simp[rT]
      simp[e0,e2,e5,e6,e7,hsl,hnm,hc0,fillV,lay,ofDs,hbl,hE1,hpl,reps,happ,w1,hrc]
      have hne:endAt 1 (ns++ [toZero R])=E+z+1:=by rw[endAt_snoc,← hE,hz]
      refine⟨n' - z,by omega,(hJ _ _ _).2 ⟨ns++ [toZero R],by rw[hne];omega,?_,rfl,fun k hkk=> ?_⟩⟩
      · rw[hne];simp
      · have hsub:=hrdk (k+z+1) (by omega)
        rw[← hE,← hR]at hsub
        have hstep:rdNm (k+z+1) ns E R=rdNm (k+z) (ns++ [toZero R]) (E+z+1) (R.drop (z+1)):=by
          conv=> lhs;unfold rdNm
          rw[if_neg hRne,← hz,if_neg (by rintro(h | h | h | h) <;> first | omega | exact hc2 h)]
        have hdd:W.drop (E+z+1)=R.drop (z+1):=by rw[hR,List.drop_drop];congr 1
        rw[hsub,hstep,hne,hdd]
        exact rdNm_fuel _ _ _ _ _ (by rw[List.length_drop];omega) (by rw[List.length_drop];omega)
    obtain⟨rr,rfl,key⟩:=key
    rcases(hJ2 _).1 key with⟨e,ns,rfl,e2,e5,hrd2⟩ | ⟨e,q,s,rfl,h0,e2,e3,e4,hrd2⟩
    · have hrr:refRd (0::r)= .tup [refT (decide (ns≠ [])) ns,.d (.i .i64 0),.d (.i .i64 0)]:=by unfold refRd;rw[hrd2]
      have hrc:(rT ns).ok1=true∧(rT ns).cs= [rT ns]:=by unfold rT;split <;> exact⟨rfl,rfl⟩
      rw[hrr]
      by_cases hne:ns= []
      · subst hne
        simp[e2,e5,rT,refT,lay]
      · simp[e2,e5,rT,refT,lay,hne]
    · rw[hbad q hrd2]
      simp[e2,e3,e4,h0]
end
end Go.Sh
