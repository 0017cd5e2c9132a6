/- Part of the proof. -/
import Derived.Test.YtidigkielipghaaGreatDoorShLnsF
set_option linter.unusedVariables false
set_option linter.unusedSimpArgs false
set_option linter.unusedSectionVars false
namespace Go.Sh
theorem LR.cut {s:St}{sz n m:Nat}{w:V}{C:List V}{j:Option Nat}(h:LR s sz w m C j)(hm:0 < m)(hn:n≤m):∃ v,slcV sz w none (some (.d (.i .i64 (n:Int)))) none=some v∧Sub' sz v n w m:=by
  obtain⟨h0,⟨_,_,rfl⟩ | ⟨j0,cap,tail,h1,rfl,hc,hrow,ht⟩⟩:=h
  · omega
  · refine⟨.rsl sz j0 0 n cap,?_,.inr ⟨j0,cap,rfl,rfl,hn,hc⟩⟩
    have b2:bnd (some (.d (.i .i64 (n:Int)))) m cap=some n:=by
      show(if 0≤(n:Int)∧(n:Int)≤cap then some (n:Int).toNat else none)=_
      rw[if_pos (by omega),Int.toNat_natCast]
    have b3:bnds m cap none (some (.d (.i .i64 (n:Int)))) none=some (0,n,cap):=by
      have b1:bnd none cap cap=some cap:=rfl
      unfold bnds
      rw[b1]
      simp only
      rw[b2]
      rfl
    simp only[slcV,if_true,b3,Option.map_some,Nat.zero_mul,Nat.add_zero,Nat.sub_zero]
theorem takeF {c:List V}{i sz o k:Nat}{X:List V}(h:(c.drop (i * sz)).take sz=X)(hk:o+k≤sz):(c.drop (i * sz+o)).take k=(X.drop o).take k:=by
  rw[← h,← List.drop_drop,List.drop_take,List.take_take,Nat.min_eq_left (by omega)]
def behO (l:List Byt8)(nz:Bool):ObS:=oneO [98,101,104,105,110,100] true nz l
section
variable {pr:Prog}(hp:Sub ngFns pr)(hq:Sub ncFns pr)(hns:Sub nsFns pr)(h15:Sub r15Fns pr)(hsm:Sub smFns pr)(hn:Sub nmFns pr)(hob:Sub objFns pr)(hsl:Sub slFns pr)(h12:Sub ref12Fns pr)(h4:Sub ref4nFns pr)(h3:Sub ref3sFns pr)(hI:IsaOk pr)(hR:RefOk pr)(hf:pr.fn 333=none)(hg:pr.prim 333=some (pSortedS 345))
  {st:St} {p:Nat} {b:Nsb} {lab:Nat→Option Nat} {fs:Fs} {pv:List (Nat×V×List D)}
include hp hq hns h15 hsm hn hob hsl h12 h4 h3 hI hR hf hg
omit hp hq hns h15 hsm hn hob hsl h12 h4 h3 hI hR hf hg in
theorem callW_smOs (hsm:Sub smFns pr){u v:V}{os:List ObS}{nz:Bool}(hl:os.length≤140737488355328)(ho:∀ o∈os,o.ok)(hu:u=dsl ObS.cells nz os)(h:Lst st 5 v (flC ObS.cells (os.map ObS.cp))):CallW pr 367 [v,u] st fun r s=> s=st∧r= .d (.b true):=by
  obtain⟨a,hs⟩:=h.seeC ObS.c5 (by omega) 0
  have hs':see1 st 1 u=some (dsl ObS.cells nz os):=by rw[hu];rfl
  refine .seen (k:=1) (seeA_two hs hs') (CallW.of_den (den_smA hsm hl ho rfl rfl) ?_)
  simp[FreshR,FreshV,D.flat,pushO,V.flat]
omit hns h15 hsm hn hob hsl h12 h4 h3 hI hR hf hg in
theorem loopMine {s:St}{R:List V}{al:List (Nat×List V)}(h:Hq s p R lab fs pv al){m:Nat}{full u e1 e5 e6 e7 e9 e10 e11 e12:V}{C:List V}(hf10:fs 10=some (5,m,full,C)){n:Nat}(hnm:n≤m)(hlen:lenV u=some n)(hm:n≤9223372036854775806){Q:Out→Prop}
    (hQ:∀ e s C',Hq s p R lab (updF fs 10 (some (5,m,full,C'))) pv al→e.get 1=some e1→e.get 5=some e5→e.get 6=some e6→e.get 7=some e7→e.get 9=some e9→e.get 10=some e10→e.get 11=some e11→e.get 12=some e12→Q (.exit 0,e,s)):
    CodeW pr (.loop [0,1,5,6,7,8,9,10,11,12,13] false F364_b0) [(0,u),(1,e1),(5,e5),(6,e6),(7,e7),(8,full),(9,e9),(10,e10),(11,e11),(12,e12),(13,.d (.i .i64 0))] s Q:=by
  have hone:=fun st=> den_one hq (st:=st) [109,105,110,101] true false []
  obtain⟨d0,d1,d2,d3,d4,hd⟩:∃ d0 d1 d2 d3 d4:V,(oneO [109,105,110,101] true false []).vs= [d0,d1,d2,d3,d4]:=⟨_,_,_,_,_,rfl⟩
  rw[hd]at hone
  have hdy:dsl txC false []= .d (.sl 0 false []):=rfl
  rw[hdy]at hone
  obtain⟨J,hJ⟩:∃ J:Nat→Env→St→Prop,∀ n' e s,J n' e s↔∃ i C',i≤n∧n'=n - i∧e= [(0,u),(1,e1),(5,e5),(6,e6),(7,e7),(8,full),(9,e9),(10,e10),(11,e11),(12,e12),(13,.d (.i .i64 (i:Nat)))]∧Hq s p R lab (updF fs 10 (some (5,m,full,C'))) pv al:=⟨_,fun _ _ _=> Iff.rfl⟩
  refine loopW_j wNg J ?_ (n:=n) ((hJ _ _ _).2 ⟨0,C,Nat.zero_le _,rfl,by simp,by rw[← hf10,updF_self];exact h⟩)
  intro n' e s hj
  obtain⟨i,C',hi,rfl,rfl,hs⟩:=(hJ _ _ _).1 hj
  rcases Nat.lt_or_ge i n with hlt | hge
  · have w1:IntKind.wrap .i64 ((i:Int)+1)=i+1:=wrap_i64 (by omega) (by omega)
    obtain⟨j0,c',_,a1,a2,a3,a4,h2,_⟩:=hs.write (a:=10) (by omega) updF_eq (k:=i) (by omega) (ys:= [d0,d1,d2,d3,d4]) rfl
    rw[updF_updF]at h2
    have hset:∀ cs,s.setBlk j0 (.row cs)=some (s.put j0 cs):=fun cs=> setBlk_put hs.fl
    simp[F364_b0,wNg,hlen,hlt,hone,a1,a2,a3,hset,w1]
    exact⟨n - (i+1),by omega,(hJ _ _ _).2 ⟨i+1,_,by omega,rfl,by simp,h2⟩⟩
  · have:i=n:=by omega
    subst this
    simp[F364_b0,wNg,hlen]
    exact hQ _ _ C' hs (by simp) (by simp) (by simp) (by simp) (by simp) (by simp) (by simp) (by simp)
set_option maxHeartbeats 2000000 in
theorem callW_merged (h:NsI st p b lab fs pv [])(hno:∀ e,5≤e→lab e=none∧fs e=none)(hbl:b.fl.length≤549755813888∧b.tl.length≤549755813888){nz:Bool}{os:List ObS}(hl:os.length * 120≤140737488351232)(hok:∀ o∈os,o.ok)(hs:∀ o∈os,∀ s∈namesO o,s.length≤9223372036854775807){Q:V→St→Prop}
    (hQ:∀ s b' lab' fs' pv',NsI s p b' lab' fs' pv' []→(∀ e,5≤e→lab' e=none∧fs' e=none)→b'.fl.length=b.fl.length+6→b'.tl.length=b.tl.length+4→Q (.d (.b true)) s):CallW pr 364 [dsl ObS.cells nz os,.ptr p 0] st Q:=by
  refine .run wNg (hp.at 1 rfl) rfl ?_
  rw[start_raw _ rfl]
  refine codeC_of ?_
  obtain⟨F,T,nm,er,hX⟩:∃ F T nm er,mrgR chkB os=(F,T,nm,er):=⟨_,_,_,_,rfl⟩
  have hrm:=fun st=> den_rMerge h15 h12 h4 h3 hR (st:=st) (dsl_c ObS.c5 nz os) (by omega) hok hs
  rw[hX]at hrm
  have hu:=dsl_d ObS.c5 nz os
  have hlen:=hu.len
  rw[List.length_map]at hlen
  obtain⟨u,hU⟩:∃ u,u=dsl ObS.cells nz os:=⟨_,rfl⟩
  rw[← hU]at hu hlen hrm ⊢
  have hfl:=h.hp.fl
  obtain⟨rF,hrF⟩:∃ rF,rF=dsl Bnd.cells (decide (0 < F.length)) F:=⟨_,rfl⟩
  obtain⟨rT,hrT⟩:∃ rT,rT=dsl TbS.cells (decide (0 < T.length)) T:=⟨_,rfl⟩
  simp only[mrgV,← hrF,← hrT]at hrm
  have oF:rF.ok1=true∧rF.cs= [rF]:=by rw[hrF];exact⟨rfl,rfl⟩
  have oT:rT.ok1=true∧rT.cs= [rT]:=by rw[hrT];exact⟨rfl,rfl⟩
  obtain⟨b5,hb5⟩:∃ b5,b5=st.heap.length:=⟨_,rfl⟩
  obtain⟨s1,hs1⟩:∃ s1,s1=st.push (.row [rF,rT]):=⟨_,rfl⟩
  have hset:∀ cs,(st.push (.row cs)).setBlk b5 (.row [rF,rT])=some s1:=fun cs=> by rw[hb5,setBlk_push rfl (by rw[hfl];omega),hs1]
  have h1:Hq s1 p b.R lab fs pv [(b5,[rF,rT])]:=by
    rw[hs1]
    refine(h.hp.push _).alset fun x hx=> ?_
    obtain rfl:=List.mem_singleton.1 hx
    exact⟨by rw[hb5];exact row_push_new rfl,h.hp.apNew (by rw[hb5];exact Nat.le_refl _)⟩
  simp[F364,wNg,hrm,← hb5,hset,lay,ofDs,oF,oT]
  have hcpy:∀ Q:V→St→Prop,(∀ s' v j,Hq s' p b.R (upd lab 10 j) (updF fs 10 (some (5,os.length,v,ofDs (flC ObS.cells (os.map ObS.cp))))) pv [(b5,[rF,rT])]→Q v s')→CallW pr 388 [u] s1 Q:=by
    rw[hU]
    exact fun Q hQ=> callW_cpObjsR hp hq h1 (by omega) (hno 10 (by omega)).1 (by omega) hok hQ
  refine hcpy _ ?_
  intro s2 v0 j0 h2
  have hb1:=fun st=> den_one hq (st:=st) [98,101,104,105,110,100] true true [[98,101,104,105,110,100]]
  have hb2:=fun st=> den_one hq (st:=st) [98,101,104,105,110,100] true false []
  obtain⟨d0,d1,d2,d3,d4,hd,hd3⟩:∃ d0 d1 d2 d3 d4:D,(behO [[98,101,104,105,110,100]] true).cells= [d0,d1,d2,d3,d4]∧d3= .sl 1 true [.s [98,101,104,105,110,100]]:=⟨_,_,_,_,_,rfl,rfl⟩
  obtain⟨e0,e1,e2,e3,e4,he,he1⟩:∃ e0 e1 e2 e3 e4:D,(behO [] false).cells= [e0,e1,e2,e3,e4]∧e1= .sl 1 true [.s [98,101,104,105,110,100],.b true,.i .i64 0,.i .i64 1]:=⟨_,_,_,_,_,rfl,rfl⟩
  have hv1:(oneO [98,101,104,105,110,100] true true [[98,101,104,105,110,100]]).vs= [.d d0,.d d1,.d d2,.d d3,.d d4]:=by
    have:(behO [[98,101,104,105,110,100]] true).vs=ofDs (behO [[98,101,104,105,110,100]] true).cells:=rfl
    rw[hd]at this
    exact this
  have hv2:(oneO [98,101,104,105,110,100] true false []).vs= [.d e0,.d e1,.d e2,.d e3,.d e4]:=by
    have:(behO [] false).vs=ofDs (behO [] false).cells:=rfl
    rw[he]at this
    exact this
  rw[hv1]at hb1
  rw[hv2]at hb2
  have hdx:dsl txC true [[98,101,104,105,110,100]]= .d (.sl 1 true [.s [98,101,104,105,110,100]]):=rfl
  have hdy:dsl txC false []= .d (.sl 0 false []):=rfl
  rw[hdx]at hb1
  rw[hdy]at hb2
  simp[F364,wNg,hb1,hb2,fillV,reps,lay,ofDs,toDs,toD]
  refine h2.app (a:=10) (by omega) updF_eq (m:=2) (ys:=ofDs [d0,d1,d2,d3,d4,e0,e1,e2,e3,e4]) rfl rfl rfl (by omega) (by omega) ?_
  intro s3 full j3 h3 _ _
  have hcat:ofDs (flC ObS.cells (os.map ObS.cp))++ofDs [d0,d1,d2,d3,d4,e0,e1,e2,e3,e4]=ofDs (flC ObS.cells (os.map ObS.cp++ [behO [[98,101,104,105,110,100]] true,behO [] false])):=by
    rw[flC_app]
    have:flC ObS.cells [behO [[98,101,104,105,110,100]] true,behO [] false]= [d0,d1,d2,d3,d4,e0,e1,e2,e3,e4]:=by
      simp only[flC,List.map_cons,List.map_nil,List.flatten_cons,List.flatten_nil,hd,he]
      rfl
    rw[this]
    simp[ofDs]
  rw[hcat,updF_updF,upd_upd]at h3
  obtain⟨FL,hFL⟩:∃ FL,FL=os.map ObS.cp++ [behO [[98,101,104,105,110,100]] true,behO [] false]:=⟨_,rfl⟩
  rw[← hFL]at h3
  obtain⟨lab3,fs3,h3,f3_10,E3⟩:∃ lab3 fs3,Hq s3 p b.R lab3 fs3 pv [(b5,[rF,rT])]∧fs3 10=some (5,os.length+2,full,ofDs (flC ObS.cells FL))∧Els lab lab3 fs fs3 (fun e=> e=10):=⟨_,_,h3,updF_eq,Els.upd⟩
  obtain⟨cutv,hcut,hcsub⟩:=(h3.lr 10 _ f3_10).cut (by show 0 < os.length+2;omega) (n:=os.length) (by show os.length≤os.length+2;omega)
  have htk:(flC ObS.cells FL).take (os.length * 5)=flC ObS.cells (os.map ObS.cp):=by
    have:=flC_len ObS.c5 (os.map ObS.cp)
    rw[List.length_map]at this
    rw[hFL,flC_app,← this,List.take_left' rfl]
  have htk':(ofDs (flC ObS.cells FL)).take (os.length * 5)=ofDs (flC ObS.cells (os.map ObS.cp)):=by rw[← htk];simp[ofDs,List.map_take]
  have hcl:Lst s3 5 cutv (flC ObS.cells (os.map ObS.cp)):=(h3.subs f3_10 hcsub htk').1
  simp[hlen,hcut]
  rw[if_pos (by decide)]
  have N11:lab3 11=none∧fs3 11=none:=⟨(E3 11 (by omega)).2.trans (hno 11 (by omega)).1,(E3 11 (by omega)).1.trans (hno 11 (by omega)).2⟩
  have N12:lab3 12=none∧fs3 12=none:=⟨(E3 12 (by omega)).2.trans (hno 12 (by omega)).1,(E3 12 (by omega)).1.trans (hno 12 (by omega)).2⟩
  refine callW_MergeA hn hob hsl hI hf hg hcl (by omega) hok hs hX h3 (a:=11) (b:=12) (by omega) (by omega) (by omega) N11 N12 ?_
  intro s4 fv tv lab4 fs4 h4' E4 f4_11 f4_12
  have f4_10:=(E4 10 (by omega)).1.trans f3_10
  have ofv:=h4'.one f4_11
  have otv:=h4'.one f4_12
  obtain⟨b9,hb9⟩:∃ b9,b9=s4.heap.length:=⟨_,rfl⟩
  obtain⟨s5,hs5⟩:∃ s5,s5=s4.push (.row [fv,tv]):=⟨_,rfl⟩
  have hset4:∀ cs,(s4.push (.row cs)).setBlk b9 (.row [fv,tv])=some s5:=fun cs=> by rw[hb9,setBlk_push rfl (by rw[h4'.fl];omega),hs5]
  have h5:Hq s5 p b.R lab4 fs4 pv [(b9,[fv,tv]),(b5,[rF,rT])]:=by
    rw[hs5]
    refine(h4'.push _).alset fun x hx=> ?_
    rcases List.mem_cons.1 hx with rfl | hx
    · exact⟨by rw[hb9];exact row_push_new rfl,h4'.apNew (by rw[hb9];exact Nat.le_refl _)⟩
    · exact⟨by rw[row_old (row_lt (h4'.al x hx).1)];exact(h4'.al x hx).1,(h4'.al x hx).2⟩
  simp[F364,wNg,hlen,← hb9,hset4,lay,ofDs,ofv,otv,hcut]
  have hcl5:Lst s5 5 cutv (flC ObS.cells (os.map ObS.cp)):=(h5.subs f4_10 hcsub htk').1
  refine(callW_smOs hsm (by omega) hok hU hcl5).mono ?_
  rintro r s' ⟨es,rfl⟩
  replace es:=es.symm
  subst es
  have hFn:FL[os.length]? =some (behO [[98,101,104,105,110,100]] true):=by
    rw[hFL,List.getElem?_append_right (by simp),List.length_map,Nat.sub_self]
    rfl
  have hFn1:FL[os.length+1]? =some (behO [] false):=by
    rw[hFL,List.getElem?_append_right (by simp),List.length_map,Nat.add_sub_cancel_left]
    rfl
  obtain⟨jf,cf,_,k1,k2,k3,k4⟩:=h5.elem f4_10 (i:=os.length) (by omega) (k:= .i64)
  obtain⟨jg,cg,_,l1,l2,l3,l4⟩:=h5.elem f4_10 (i:=os.length+1) (by omega) (k:= .i64)
  rw[flC_at ObS.c5 hFn,hd]at k4
  rw[flC_at ObS.c5 hFn1,he]at l4
  have k5:=takeF k4 (o:=3) (k:=1) (by omega)
  have l5:=takeF l4 (o:=1) (k:=1) (by omega)
  have k6:os.length * 5+3+1≤cf.length:=by omega
  have l6:(os.length+1) * 5+1+1≤cg.length:=by omega
  have w1:IntKind.wrap .i64 ((os.length:Int)+1)=((os.length+1:Nat):Int):=by rw[wrap_i64 (by omega) (by omega)];omega
  have hld1:loadV 1 false s5 (.ptr jf (os.length * 5+3))=some (.d (.sl 1 true [.s [98,101,104,105,110,100]])):=by
    simp only[loadV,k2,if_pos k6,k5,ofDs,hd3]
    rfl
  have hld2:loadV 1 false s5 (.ptr jg ((os.length+1) * 5+1))=some (.d (.sl 1 true [.s [98,101,104,105,110,100],.b true,.i .i64 0,.i .i64 1])):=by
    simp only[loadV,l2,if_pos l6,l5,ofDs,he1]
    rfl
  obtain⟨q1,hq1⟩:∃ q1,q1=os.length * 5+3:=⟨_,rfl⟩
  obtain⟨q2,hq2⟩:∃ q2,q2=(os.length+1) * 5+1:=⟨_,rfl⟩
  obtain⟨n1,hn1⟩:∃ n1,n1=os.length+1:=⟨_,rfl⟩
  have hfa1:faddrV 3 (.ptr jf (os.length * 5))=some (.ptr jf q1):=by rw[hq1];rfl
  have hfa2:faddrV 1 (.ptr jg ((os.length+1) * 5))=some (.ptr jg q2):=by rw[hq2];rfl
  rw[← hq1]at hld1
  rw[← hq2]at hld2
  rw[← hn1]at w1 l1 hfa2
  have hz1:iaddrV 1 (.d (.sl 1 true [.s [98,101,104,105,110,100]])) (.d (.i .i64 0))=some (.ep [.s [98,101,104,105,110,100]]):=rfl
  have hz2:iaddrV 4 (.d (.sl 1 true [.s [98,101,104,105,110,100],.b true,.i .i64 0,.i .i64 1])) (.d (.i .i64 0))=some (.ep [.s [98,101,104,105,110,100],.b true,.i .i64 0,.i .i64 1]):=rfl
  have hnum:=fun x st=> den_num15 hq (st:=st) x
  have hr9:=(h5.al (b9,[fv,tv]) (by simp)).1
  have hr5:=(h5.al (b5,[rF,rT]) (by simp)).1
  simp only at hr9 hr5
  simp[wNg,hlen,k1,hfa1,hld1,w1,l1,hfa2,hld2,hz1,hz2,ofDs,hnum,hr9,hr5]
  obtain⟨few1,few2⟩:=mrgB_few hX
  have lF:∀ s,Lst s 3 rF (flC Bnd.cells F):=fun s=> by rw[hrF];exact⟨rfl,flC_len cB F⟩
  have lT:∀ s,Lst s 5 rT (flC TbS.cells T):=fun s=> by rw[hrT];exact⟨rfl,flC_len cT T⟩
  refine(callW_sameF h15 (by omega) ((h5.lr 11 _ f4_11).lst).1 (lF s5)).mono ?_
  rintro r s' ⟨es,rfl⟩
  replace es:=es.symm
  subst es
  simp[wNg,hr9,hr5]
  refine(callW_sameT hsm (by omega) ((h5.lr 12 _ f4_12).lst).1 (lT s5)).mono ?_
  rintro r s' ⟨es,rfl⟩
  replace es:=es.symm
  subst es
  simp[wNg,hlen,hcut]
  -- the second answer
  have N13:lab4 13=none∧fs4 13=none:=⟨(E4 13 (by omega)).2.trans ((E3 13 (by omega)).2.trans (hno 13 (by omega)).1),(E4 13 (by omega)).1.trans ((E3 13 (by omega)).1.trans (hno 13 (by omega)).2)⟩
  have N14:lab4 14=none∧fs4 14=none:=⟨(E4 14 (by omega)).2.trans ((E3 14 (by omega)).2.trans (hno 14 (by omega)).1),(E4 14 (by omega)).1.trans ((E3 14 (by omega)).1.trans (hno 14 (by omega)).2)⟩
  refine callW_MergeA hn hob hsl hI hf hg hcl5 (by omega) hok hs hX h5 (a:=13) (b:=14) (by omega) (by omega) (by omega) N13 N14 ?_
  intro s6 fw tw lab6 fs6 h6' E6 f6_13 f6_14
  have f6_10:=(E6 10 (by omega)).1.trans f4_10
  have f6_11:=(E6 11 (by omega)).1.trans f4_11
  have f6_12:=(E6 12 (by omega)).1.trans f4_12
  have ofw:=h6'.one f6_13
  have otw:=h6'.one f6_14
  obtain⟨b12,hb12⟩:∃ b12,b12=s6.heap.length:=⟨_,rfl⟩
  obtain⟨s7,hs7⟩:∃ s7,s7=s6.push (.row [fw,tw]):=⟨_,rfl⟩
  have hset6:∀ cs,(s6.push (.row cs)).setBlk b12 (.row [fw,tw])=some s7:=fun cs=> by rw[hb12,setBlk_push rfl (by rw[h6'.fl];omega),hs7]
  obtain⟨al7,hal7⟩:∃ al7,al7= [(b12,[fw,tw]),(b9,[fv,tv]),(b5,[rF,rT])]:=⟨_,rfl⟩
  have m12:(b12,[fw,tw])∈al7:=by rw[hal7];simp
  have m9:(b9,[fv,tv])∈al7:=by rw[hal7];simp
  have m5:(b5,[rF,rT])∈al7:=by rw[hal7];simp
  have h7:Hq s7 p b.R lab6 fs6 pv al7:=by
    rw[hs7]
    refine(h6'.push _).alset fun x hx=> ?_
    rw[hal7]at hx
    rcases List.mem_cons.1 hx with rfl | hx
    · exact⟨by rw[hb12];exact row_push_new rfl,h6'.apNew (by rw[hb12];exact Nat.le_refl _)⟩
    · exact⟨by rw[row_old (row_lt (h6'.al x hx).1)];exact(h6'.al x hx).1,(h6'.al x hx).2⟩
  simp[F364,wNg,← hb12,hset6,lay,ofDs,ofw,otw]
  refine loopMine hp hq h7 f6_10 (n:=os.length) (by omega) hlen (by omega) ?_
  intro e8 s8 C8 h8 g1 g5 g6 g7 g9 g10 g11 g12
  have h9:=h8.drop (a:=10) (by omega)
  rw[updF_updF]at h9
  obtain⟨lab9,fs9,h9,E9,N9⟩:∃ lab9 fs9,Hq s8 p b.R lab9 fs9 pv al7∧Els lab6 lab9 fs6 fs9 (fun e=> e=10)∧(lab9 10=none∧fs9 10=none):=⟨_,_,h9,Els.upd,upd_eq,updF_eq⟩
  have EA:Els lab lab9 fs fs9 (fun e=> e=10∨e=11∨e=12∨e=13∨e=14):=(E3.mono fun e he=> by omega).trans ((E4.mono fun e he=> by omega).trans ((E6.mono fun e he=> by omega).trans (E9.mono fun e he=> by omega)))
  have hI9:NsI s8 p b lab9 fs9 pv al7:=⟨h9,(EA 1 (by omega)).1.trans h.f1,(EA 2 (by omega)).1.trans h.f2,(EA 3 (by omega)).1.trans h.f3,(EA 4 (by omega)).1.trans h.f4,h.pf,h.pt,fun e he=> ⟨(EA e (by omega)).2.trans (h.none e he).1,(EA e (by omega)).1.trans (h.none e he).2⟩⟩
  have r9:=(h9.al _ m9).1
  simp only at r9
  simp[wNg,g1,g5,g6,g7,g9,g10,g11,g12,r9]
  refine callW_ownN hns hI9 (by omega) (a:=11) (d:=12) (by omega) (by omega) (by omega) ((E9 11 (by omega)).1.trans f6_11) ((E9 12 (by omega)).1.trans f6_12) few1 few2 ?_
  intro s10 b10 lab10 fs10 pv10 hI10 _ E10 N10 q1 q2
  have f10_13:=(E10 13 (by omega)).1.trans ((E9 13 (by omega)).1.trans f6_13)
  have f10_14:=(E10 14 (by omega)).1.trans ((E9 14 (by omega)).1.trans f6_14)
  have r12:=(hI10.hp.al _ m12).1
  have r5:=(hI10.hp.al _ m5).1
  simp only at r12 r5
  simp[wNg,hnum,r12,r5]
  refine(callW_sameF h15 (by omega) ((hI10.hp.lr 13 _ f10_13).lst).1 (lF _)).mono ?_
  rintro r s' ⟨es,rfl⟩
  replace es:=es.symm
  subst es
  simp[wNg,r12,r5]
  refine(callW_sameT hsm (by omega) ((hI10.hp.lr 14 _ f10_14).lst).1 (lT _)).mono ?_
  rintro r s' ⟨es,rfl⟩
  replace es:=es.symm
  subst es
  simp[wNg,r12]
  refine callW_ownN hns hI10 (by omega) (a:=13) (d:=14) (by omega) (by omega) (by omega) f10_13 f10_14 few1 few2 ?_
  intro s11 b11 lab11 fs11 pv11 hI11 _ E11 N11' q3 q4
  simp[wNg]
  refine(callW_holdsN hns h15 hsm hI11 (by omega)).mono ?_
  rintro r s' ⟨es,rfl⟩
  replace es:=es.symm
  subst es
  simp[wNg,FinW]
  have hz:NsI s11 p b11 lab11 fs11 pv11 []:=⟨hI11.hp.alset (fun x hx=> by cases hx),hI11.f1,hI11.f2,hI11.f3,hI11.f4,hI11.pf,hI11.pt,hI11.none⟩
  refine hQ _ _ _ _ _ hz (fun e he=> ?_) (by omega) (by omega)
  rcases Nat.lt_or_ge e 20 with h20 | h20
  · by_cases c1:e=13∨e=14
    · exact N11' e c1
    · obtain⟨x1,x2⟩:=E11 e (by omega)
      rw[x1,x2]
      by_cases c2:e=11∨e=12
      · exact N10 e c2
      · obtain⟨x3,x4⟩:=E10 e (by omega)
        rw[x3,x4]
        by_cases c3:e=10
        · subst c3;exact N9
        · obtain⟨x5,x6⟩:=EA e (by omega)
          rw[x5,x6]
          exact hno e he
  · exact hI11.none e h20
end
end Go.Sh
