/- Part of the proof. -/
import Derived.Test.YtpgipjjhapapjaaShLstrsJ
set_option linter.unusedVariables false
set_option linter.unusedSimpArgs false
namespace Go.Sh
@[simp] theorem ptr_cs {a b:Nat}:V.cs (.ptr a b)= [.ptr a b]:=rfl
@[simp] theorem ptr_ok1 {a b:Nat}:V.ok1 (.ptr a b)=true:=rfl
structure DK where
  d:Nat
  p:Nat
  m:Nat
  tn:Nat
  tp:Nat
  live:Bool
  ns:List Nm
def DK.R (k:DK):Nat→Prop:=DR k.d k.p k.m k.live
def DK.T (k:DK):Nat→Prop:=DT k.tn k.tp k.live k.ns
def DK.In (k:DK)(st:St):Prop:=Dsk st k.d k.p k.m k.tn k.tp k.live k.ns
def actC (a:Int×Int×List UInt8×Int):List D:= [.i .i64 a.1,.i .i64 a.2.1,.s a.2.2.1,.i .i64 a.2.2.2]
section
variable {pr:Prog}(hp:Sub strsFns pr)(hq:SubP strsPrims pr)(hl:Sub law8Fns pr)(hr:Sub ref8Fns pr)(ha:Sub allFns pr){st:St}
include hp hq hr ha
theorem den_open {nz:Bool}{L:List UInt8}(hfl:st.floor=0)(htf:st.tfloor=0)(hL:L.length≤1073741824):∃ (st':St) (k:DK),den pr 155 [bsl nz L] st=some (.tup [.ptr k.d 0,.d (.b true)],st')∧k.In st'∧Kp st st' (fun _=> False) (fun _=> False)∧(∀ i,k.R i→st.heap.length≤i)∧(∀ t,k.T t→st.tips.length≤t)∧endAt 1 k.ns≤L.length+1:=by
  obtain⟨Q,hQ⟩:∃ Q:V→St→Prop,∀ v s',Q v s'↔∃ k:DK,v= .tup [.ptr k.d 0,.d (.b true)]∧k.In s'∧Kp st s' (fun _=> False) (fun _=> False)∧(∀ i,k.R i→st.heap.length≤i)∧(∀ t,k.T t→st.tips.length≤t)∧endAt 1 k.ns≤L.length+1:=⟨_,fun _ _=> Iff.rfl⟩
  suffices hh:Ans Q (den pr 155 [bsl nz L] st) by
    obtain⟨v,s',e1,e2⟩:=hh.ex
    obtain⟨k,rfl,h2⟩:=(hQ _ _).1 e2
    exact⟨s',k,e1,h2⟩
  rw[den_fn (ha.at 2 rfl) rfl rfl,start_raw _ rfl]
  by_cases h0:L= []
  · subst h0
    obtain⟨s1,n1,n2,n3⟩:=den_New hp hfl htf
    have hk:Q (.tup [.ptr s1.heap.length 0,.d (.b true)]) (s1.push (.row [.ptr (st.heap.length+1) 0,.d (.sl 0 false [])])):=by
      have kk:Kp s1 (s1.push (.row [.ptr (st.heap.length+1) 0,.d (.sl 0 false [])])) (fun _=> False) (fun _=> False):= .push _
      have hlt:=n2.plt
      refine(hQ _ _).2 ⟨⟨s1.heap.length,st.heap.length+1,st.heap.length,0,0,true,[]⟩,rfl,⟨kk.floor.trans n2.fl,kk.tfloor.trans n2.tf,⟨false,row_push_new rfl,fun _=> rfl⟩,fun _=> ⟨n2.keep kk id id fun _=> ⟨id,id⟩,by show s1.heap.length≠st.heap.length+1;omega⟩⟩,n3.trans kk,?_,fun t ht=> absurd rfl ht.2.1,by simp[endAt]⟩
      intro i hi
      rcases hi with e | ⟨_,e | e⟩
      · have e:i=s1.heap.length:=e
        omega
      · have e:i=st.heap.length+1:=e
        omega
      · have e:i=st.heap.length:=e
        omega
    have hlen:lenV (bsl nz [])=some 0:=rfl
    simp[F155,n1,eqV,fillV,lay,ofDs]
    exact hk
  have hcp:=fun st=> den_copyB8 hr (st:=st) (nz:=nz) (L:=L) (by omega)
  have hrr:=fun st=> den_refRead hr (st:=st) (nz:=true) (L:=L) (by omega)
  have hnum:=fun st x=> den_num8 hr (st:=st) x
  have hle:¬ ((L.length:Int)=0):=by
    have:=List.length_pos_iff.2 h0
    omega
  have hset0:∀ T',(st.push (.row [.d (.sl 0 false [])])).setBlk st.heap.length (.row [T'])=some (st.push (.row [T'])):=by
    intro T'
    rw[setBlk_put (by simpa using hfl)]
    simp[St.put,St.push]
  cases hrb:readB L with
  | mk o q=>
  cases o with
  | none=>
    have hrf:refRd L= .tup [.agg [.d (.sl 0 false [])],.d (.i .i64 (q:Nat)),.d (.i .i64 80)]:=by unfold refRd;rw[hrb];rfl
    obtain⟨v,s2,r1,r2,r3⟩:=den_Read hp hq (st:=st.push (.row [.d (.sl 0 false [])])) (v:=bsl nz L) (L:=L) (by simpa using hfl) (by simpa using htf) (.inl ⟨nz,rfl⟩) (by omega)
    rw[hrb]at r3
    simp only at r3
    subst r3
    have hT:s2.row st.heap.length=some [.d (.sl 0 false [])]:=(row_of_heap (r2.heap st.heap.length (by simp) id)).trans (row_push_new rfl)
    have hk:Q (.tup [.ptr s2.heap.length 0,.d (.b true)]) (s2.push (.row [.d .np,.d (.sl 0 false [])])):=by
      have kk:Kp s2 (s2.push (.row [.d .np,.d (.sl 0 false [])])) (fun _=> False) (fun _=> False):= .push _
      have k2:Kp st (s2.push (.row [.d .np,.d (.sl 0 false [])])) (fun _=> False) (fun _=> False):=(Kp.push _).trans (r2.trans kk)
      have h1:=r2.hlen
      simp at h1
      refine(hQ _ _).2 ⟨⟨s2.heap.length,0,0,0,0,false,[]⟩,rfl,⟨k2.floor.trans hfl,k2.tfloor.trans htf,⟨false,row_push_new rfl,fun _=> rfl⟩,nofun⟩,k2,?_,fun t ht=> absurd rfl ht.2.1,by simp[endAt]⟩
      intro i hi
      rcases hi with e | ⟨e,_⟩
      · have e:i=s2.heap.length:=e
        omega
      · cases e
    simp[F155,eqV,fillV,lay,ofDs,hle,hcp,hrr,hrf,hset0,r1,hT,hnum,h0]
    exact hk
  | some ns=>
    have hrf:refRd L= .tup [.agg [.d (.sl ns.length (decide (ns≠ [])) (ns.map .s))],.d (.i .i64 0),.d (.i .i64 0)]:=by unfold refRd;rw[hrb];rfl
    obtain⟨T',hT'⟩:∃ T',T'=V.d (.sl ns.length (decide (ns≠ [])) (ns.map .s)):=⟨_,rfl⟩
    rw[← hT']at hrf
    have hTo:T'.ok1=true∧T'.cs= [T']:=by rw[hT'];exact⟨rfl,rfl⟩
    obtain⟨v,s2,r1,r2,r3⟩:=den_Read hp hq (st:=st.push (.row [T'])) (v:=bsl nz L) (L:=L) (by simpa using hfl) (by simpa using htf) (.inl ⟨nz,rfl⟩) (by omega)
    rw[hrb]at r3
    simp only at r3
    obtain⟨p,m,tn,tp,rfl,ht,hp1,hm1,htk⟩:=r3
    have hT:s2.row st.heap.length=some [T']:=(row_of_heap (r2.heap st.heap.length (by simp) id)).trans (row_push_new rfl)
    simp at hp1 hm1
    have hk:Q (.tup [.ptr s2.heap.length 0,.d (.b true)]) (s2.push (.row [.ptr p 0,T'])):=by
      have kk:Kp s2 (s2.push (.row [.ptr p 0,T'])) (fun _=> False) (fun _=> False):= .push _
      have k2:Kp st (s2.push (.row [.ptr p 0,T'])) (fun _=> False) (fun _=> False):=(Kp.push _).trans (r2.trans kk)
      have h1:=r2.hlen
      simp at h1
      have hpl:=ht.plt
      obtain⟨hb,_,_,_⟩:=readB_some hrb
      refine(hQ _ _).2 ⟨⟨s2.heap.length,p,m,tn,tp,true,ns⟩,rfl,⟨k2.floor.trans hfl,k2.tfloor.trans htf,⟨decide (ns≠ []),?_,by simp⟩,fun _=> ⟨ht.keep kk id id fun _=> ⟨id,id⟩,by show s2.heap.length≠p;omega⟩⟩,k2,?_,?_,?_⟩
      · show(s2.push (.row [.ptr p 0,T'])).row s2.heap.length=_
        rw[row_push_new rfl,hT']
        rfl
      · intro i hi
        rcases hi with e | ⟨_,e | e⟩
        · have e:i=s2.heap.length:=e
          omega
        · have e:i=p:=e
          omega
        · have e:i=m:=e
          omega
      · rintro t ⟨_,hne,e⟩
        obtain⟨q1,q2⟩:=htk hne
        simp at q1 q2
        rcases e with e | e
        · have e:t=tn:=e
          omega
        · have e:t=tp:=e
          omega
      · show endAt 1 ns≤_
        rw[hb,tabB_len]
        omega
    simp[F155,eqV,fillV,lay,ofDs,hle,hcp,hrr,hrf,hset0,r1,hT,hnum,h0,hTo]
    exact hk
include hl
end
end Go.Sh
