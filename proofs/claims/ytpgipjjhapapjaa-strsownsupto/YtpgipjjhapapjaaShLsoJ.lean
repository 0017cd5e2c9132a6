/- Part of the proof. -/
import Derived.Test.YtpgipjjhapapjaaShLsoI
set_option linter.unusedVariables false
set_option linter.unusedSimpArgs false
set_option linter.unusedSectionVars false
namespace Go.Sh
section
variable {pr:Prog}(hp:Sub so8Fns pr)(hr:Sub ref8Fns pr){st:St}{p:Nat}{b:S8b}{lab:Nat→Option Nat}{fs:Fs}{pv:List (Nat×V×List D)}
include hp hr
theorem callW_Own8 (h:S8 st p b lab fs pv [])(hk:b.kv.length≤899999900)(hf:b.fr.length≤2){x:V}{L:List Nm}{j:Option Nat}(hx:LR st 1 x L.length (ofDs (flD sC L)) j)(hj:∀ r,j=some r→r < st.heap.length∧(∀ c,lab c≠some r)∧∀ y∈pv,foot y.2.1≠some r)(ht:b.tot+L.length≤4294967296){Q:V→St→Prop}
    (hQ:∀ s b' lab' fs' pv',S8 s p b' lab' fs' pv' []→b'.tot=b.tot+L.length→b'.kv.length≤b.kv.length+12→b'.fr.length≤2→Fr8 st s (upd lab (b.fr.length+6) j) lab' pv pv'→Q (.tup []) s):CallW pr 390 [.ptr p 0,x] st Q:=by
  have htot:=h.total
  refine .run wSo (hp.at 0 rfl) rfl ?_
  rw[start_raw _ rfl]
  refine codeC_of ?_
  have hL:L.length≤4294967296:=by omega
  have hnone:=h.none (b.fr.length+6) (Nat.le_refl _)
  -- the label of the new list
  obtain⟨lab1,hlab1⟩:∃ l,l=upd lab (b.fr.length+6) j:=⟨_,rfl⟩
  obtain⟨fs1,hfs1⟩:∃ l,l=updF fs (b.fr.length+6) (some (1,L.length,x,ofDs (flD sC L))):=⟨_,rfl⟩
  have k0:Hq st p b.R lab1 fs1 pv []:=by
    rw[hlab1,hfs1]
    refine h.hp.set (by omega) (fun r hr=> ?_) hx fun c _ r hr=> (hj r hr).2.1 c
    obtain⟨q1,q2,q3⟩:=hj r hr
    exact⟨q1,.inr ⟨q2,q3,fun y hy=> by cases hy⟩⟩
  have L1:∀ a,a≠b.fr.length+6→fs1 a=fs a∧lab1 a=lab a:=fun a ha=> by rw[hlab1,hfs1,upd_ne ha,updF_ne ha];exact⟨rfl,rfl⟩
  have f1x:fs1 (b.fr.length+6)=some (1,L.length,x,ofDs (flD sC L)):=by rw[hfs1,updF_eq]
  rw[← hlab1]at hQ
  have hrow:=h.hp.row
  simp only[S8b.R]at hrow k0
  have hset:∀ cs,st.setBlk p (.row cs)=some (st.put p cs):=fun cs=> setBlk_put h.hp.fl
  have ox:=k0.one f1x
  have hlx:=k0.len f1x
  have w1:IntKind.wrap .i64 (b.tot+(L.length:Int))=b.tot+L.length:=wrap_i64 (by omega) (by omega)
  obtain⟨c1,hc1⟩:∃ c1,c1=IntKind.wrap .i64 (b.cnt+1):=⟨_,rfl⟩
  obtain⟨t1,ht1⟩:∃ t1,t1=b.tot+(L.length:Int):=⟨_,rfl⟩
  rw[← ht1]at w1
  obtain⟨k1,g1⟩:=k0.put (R':= [.d (.i .i64 c1),.d (.i .i64 b.tot),.d (.b false),b.F,b.W,b.K,b.N]) rfl
  have F1:Fr8 st _ lab1 lab1 pv pv:= .self k0.p0 g1
  obtain⟨s1,hs1⟩:∃ s1,s1=st.put p [.d (.i .i64 c1),.d (.i .i64 b.tot),.d (.b false),b.F,b.W,b.K,b.N]:=⟨_,rfl⟩
  rw[← hs1]at k1 F1
  have hrow1:=k1.row
  have hset1:∀ cs,s1.setBlk p (.row cs)=some (s1.put p cs):=fun cs=> setBlk_put k1.fl
  obtain⟨k2,g2⟩:=k1.put (R':= [.d (.i .i64 c1),.d (.i .i64 t1),.d (.b false),b.F,b.W,b.K,b.N]) rfl
  have F2:Fr8 s1 _ lab1 lab1 pv pv:= .self k1.p0 g2
  obtain⟨s2,hs2⟩:∃ s2,s2=s1.put p [.d (.i .i64 c1),.d (.i .i64 t1),.d (.b false),b.F,b.W,b.K,b.N]:=⟨_,rfl⟩
  rw[← hs2]at k2 F2
  have hrow2:=k2.row
  have hrp2:=(k2.push (.row [x])).row
  simp[F390,wSo,hrow,hset,lay,ofDs,← hc1,← hs1,hrow1,hset1,hlx,← ht1,w1,← hs2,hrow2,fillV,reps,ox]
  refine(k2.push _).app (a:=1) (by omega) ((L1 1 (by omega)).1.trans h.f1) (vwV_lit s2 x) (by simp) rfl (by omega) (by omega) ?_
  intro s3 F' j3 k3 g3 n3
  have hrow3:=k3.row
  have hset3:∀ cs,s3.setBlk p (.row cs)=some (s3.put p cs):=fun cs=> setBlk_put k3.fl
  have oF:=k3.one (a:=1) updF_eq
  obtain⟨k4,g4⟩:=k3.put (R':= [.d (.i .i64 c1),.d (.i .i64 t1),.d (.b false),F',b.W,b.K,b.N]) rfl
  have F4:Fr8 s3 _ (upd lab1 1 j3) (upd lab1 1 j3) pv pv:= .self k3.p0 g4
  obtain⟨s4,hs4⟩:∃ s4,s4=s3.put p [.d (.i .i64 c1),.d (.i .i64 t1),.d (.b false),F',b.W,b.K,b.N]:=⟨_,rfl⟩
  rw[← hs4]at k4 F4
  have F3:Fr8 s2 s3 lab1 (upd lab1 1 j3) pv pv:=(Fr8.push _).trans (Fr8.app g3 n3)
  simp[hrow3,hset3,oF,lay,← hs4]
  have hrow4:=k4.row
  have hx4:Lst s4 1 x (flD sC L):=(k4.lr (b.fr.length+6) _ (by rw[updF_ne (by omega)];exact f1x)).lst.1
  refine drawn3 9 [0,1,2,3,4,5] [6,7,8] [] (by decide) ?_
  simp[picks,hrow4]
  refine(callW_cpX hp hx4 (by omega)).mono ?_
  rintro r s' ⟨rfl,hr'⟩
  have oc:r.ok1=true∧r.cs= [r]:=by rw[hr'];exact⟨rfl,rfl⟩
  have hrp4:=(k4.push (.row [r])).row
  simp[hrow4,fillV,reps,lay,ofDs,oc,hrp4]
  refine(k4.push _).app (a:=2) (by omega) (by rw[updF_ne (by omega)];exact(L1 2 (by omega)).1.trans h.f2) (vwV_lit s4 r) (by simp) rfl (by omega) (by omega) ?_
  intro s5 W' j5 k5 g5 n5
  have hrow5:=k5.row
  have hset5:∀ cs,s5.setBlk p (.row cs)=some (s5.put p cs):=fun cs=> setBlk_put k5.fl
  have oW:=k5.one (a:=2) updF_eq
  obtain⟨k6,g6⟩:=k5.put (R':= [.d (.i .i64 c1),.d (.i .i64 t1),.d (.b false),F',W',b.K,b.N]) rfl
  have F6:Fr8 s5 _ (upd (upd lab1 1 j3) 2 j5) (upd (upd lab1 1 j3) 2 j5) pv pv:= .self k5.p0 g6
  obtain⟨s6,hs6⟩:∃ s6,s6=s5.put p [.d (.i .i64 c1),.d (.i .i64 t1),.d (.b false),F',W',b.K,b.N]:=⟨_,rfl⟩
  rw[← hs6]at k6 F6
  have F5:Fr8 s4 s5 (upd lab1 1 j3) (upd (upd lab1 1 j3) 2 j5) pv pv:=(Fr8.push _).trans (Fr8.app g5 n5)
  have FA:Fr8 st s6 lab1 (upd (upd lab1 1 j3) 2 j5) pv pv:=F1.trans (F2.trans (F3.trans (F4.trans (F5.trans F6))))
  simp[hrow5,hset5,oW,lay,← hs6]
  have hrow6:=k6.row
  have hlF:=k6.len (a:=1) (by rw[updF_ne (by omega),updF_eq])
  have wll:b.was.length=b.fr.length:=by have:=(h.hp.lr _ _ h.f2).1;simpa using this
  have H6:S8 s6 p ⟨c1,t1,F',W',b.K,b.N,b.fr++ [(x,L)],b.was++ [r],b.kv,b.wv⟩ (upd (upd lab1 1 j3) 2 j5) (updF (updF fs1 1 (some (1,b.fr.length+1,F',b.fr.map (·.1)++ [x]))) 2 (some (1,b.fr.length+1,W',b.was++ [r]))) pv []:={
    hp:=k6
    f1:=by rw[updF_ne (by omega),updF_eq];simp
    f2:=by rw[updF_eq];simp
    f4:=by rw[updF_ne (by omega),updF_ne (by omega),(L1 4 (by omega)).1];exact h.f4
    f5:=by rw[updF_ne (by omega),updF_ne (by omega),(L1 5 (by omega)).1];exact h.f5
    ff:=fun i y hy=> by
     simp only at hy
     rw[updF_ne (by omega),updF_ne (by omega)]
     rcases Nat.lt_or_ge i b.fr.length with hlt | hge
     · rw[List.getElem?_append_left hlt]at hy
       rw[(L1 (i+6) (by omega)).1]
       exact h.ff i y hy
     · have hb:=(List.getElem?_eq_some_iff.1 hy).1
       rw[List.length_append,List.length_singleton]at hb
       have:i=b.fr.length:=by omega
       subst this
       rw[List.getElem?_append_right (Nat.le_refl _)]at hy
       simp at hy
       subst hy
       exact⟨f1x,hL⟩
    hh:=fun i y z hy hz=> by
     simp only at hy hz
     rcases Nat.lt_or_ge i b.fr.length with hlt | hge
     · rw[List.getElem?_append_left hlt]at hy
       rw[List.getElem?_append_left (by omega)]at hz
       exact h.hh i y z hy hz
     · have hb:=(List.getElem?_eq_some_iff.1 hy).1
       rw[List.length_append,List.length_singleton]at hb
       have:i=b.fr.length:=by omega
       subst this
       rw[List.getElem?_append_right (Nat.le_refl _)]at hy
       rw[List.getElem?_append_right (by omega),wll]at hz
       simp at hy hz
       subst hy hz
       exact hr'
    kw:=h.kw
    none:=fun a ha=> by
      simp at ha
      rw[upd_ne (by omega),upd_ne (by omega),updF_ne (by omega),updF_ne (by omega),(L1 a (by omega)).1,(L1 a (by omega)).2]
      exact h.none a (by omega)
    small:=⟨by simp;omega,h.small.2⟩
    total:=by simp only[ht1];omega}
  rcases(by omega:b.fr.length=0∨b.fr.length=1∨b.fr.length=2) with e0 | e0 | e0
  · rw[e0]at hlF
    by_cases hc:c1.tmod 4=0
    · simp[hrow6,hlF,hc]
      refine callW_write8 hp hr H6 (by simp only;omega) ?_
      intro s7 b7 lab7 fs7 pv7 H7 q1 q2 q3 q4 F7
      simp[FinW]
      exact hQ s7 b7 lab7 fs7 pv7 H7 (by rw[q2];exact ht1) (by simpa using q3) (by rw[q4];simp) (FA.trans F7)
    · simp[hrow6,hlF,hc,FinW]
      exact hQ s6 _ _ _ _ H6 ht1 (by simp only;omega) (by simp;omega) FA
  · rw[e0]at hlF
    simp[hrow6,hlF,FinW]
    exact hQ s6 _ _ _ _ H6 ht1 (by simp only;omega) (by simp;omega) FA
  · rw[e0]at hlF
    simp[hrow6,hlF]
    refine callW_write8 hp hr H6 (by simp only;omega) ?_
    intro s7 b7 lab7 fs7 pv7 H7 q1 q2 q3 q4 F7
    simp[FinW]
    exact hQ s7 b7 lab7 fs7 pv7 H7 (by rw[q2];exact ht1) (by simpa using q3) (by rw[q4];simp) (FA.trans F7)
end
end Go.Sh
