/- Part of the proof. -/
import Derived.Test.YtidigkielipghaaGreatDoorShLnr2
set_option linter.unusedVariables false
set_option linter.unusedSimpArgs false
set_option linter.unusedSectionVars false
namespace Go.Sh
def chkB (o:ObS):Bool:=decide ((chkV o).2=0)
theorem chkB_few {o:ObS}(h:chkB o=true):o.few:=by
  simp only[chkB,decide_eq_true_eq]at h
  by_cases hm:0≤manyV o
  · unfold chkV at h
    rw[if_pos hm]at h
    cases h
  · unfold manyV at hm
    split at hm
    · omega
    · split at hm
      · omega
      · split at hm
        · omega
        · split at hm
          · omega
          · exact⟨by omega,by omega,by omega⟩
section
variable {pr:Prog}(hp:Sub r15Fns pr){st:St}
include hp
theorem den_rMerge (h12:Sub ref12Fns pr)(h4:Sub ref4nFns pr)(h3:Sub ref3sFns pr)(hR:RefOk pr){v:V}{os:List ObS}(hv:SlC 5 v (os.map ObS.cells))(hn:os.length≤1407374883553280)(hok:∀ o∈os,o.ok)(hs:∀ o∈os,∀ s∈namesO o,s.length≤9223372036854775807):
    den pr 366 [v] st=some (mrgV (mrgR chkB os),st):=by
  obtain⟨u,hcl,hu⟩:=hv.close
  refine den_shut (hp.at 0 rfl) rfl rfl (by simp[hcl];rfl) ?_
  have hlen:=hu.len
  rw[List.length_map]at hlen
  by_cases h64:64 < os.length
  · have h64':(64:Int) < os.length:=by omega
    have hm:mrgR chkB os=([],[],[],160):=by rw[mrgR,if_pos h64]
    rw[hm]
    simp[F366,hlen,h64',mrgV,fillV,lay,ofDs,dsl]
  · have h64':¬ (64:Int) < os.length:=by omega
    simp[F366,hlen,h64',fillV,lay,ofDs]
    generalize hL:cden pr (.loop _ _ F366_b0) _ _=q
    obtain⟨r,rfl,hQ⟩:∃ r,q=some r∧((os.all chkB=true∧∃ e,r=(.exit 0,e,s0 [.row Z2] [] 0 0)∧e.get 0=some u∧e.get 2=some (.ptr 0 0))∨(os.all chkB=false∧∃ e s,r=(.ret,e,s)∧e.get 2=some (.ptr 0 0)∧e.get 3=some (.d (.s []))∧e.get 4=some (.d (.i .i64 161))∧s.row 0=some Z2)):=by
      rw[← hL]
      clear hL
      obtain⟨J,hJ⟩:∃ J:Nat→Env→St→Prop,∀ n e t,J n e t↔∃ i,n=os.length - i∧i≤os.length∧e= [(0,u),(2,.ptr 0 0),(5,.d (.i .i64 (i:Nat)))]∧t=s0 [.row Z2] [] 0 0∧∀ o∈os.take i,chkB o=true:=⟨_,fun _ _ _=> Iff.rfl⟩
      refine loop_j J ?_ (n:=os.length) ((hJ _ _ _).2 ⟨0,by omega,by omega,by simp,by simp[Z2],fun o ho=> by simp at ho⟩)
      intro n e t hh
      obtain⟨i,rfl,hi,rfl,rfl,hq⟩:=(hJ _ _ _).1 hh
      rcases Nat.lt_or_ge i os.length with hlt | hge
      · obtain⟨o,ho⟩:∃ o,os[i]? =some o:=⟨_,List.getElem?_eq_getElem hlt⟩
        have hom:=List.mem_of_getElem? ho
        have hden:=fun st=> den_rcheck h12 (st:=st) h4 h3 hR o (hok o hom) (hs o hom)
        have hn1:IntKind.wrap .i64 ((i:Int)+1)=i+1:=wrap_i64 (by omega) (by omega)
        have hia:=hu.iaddr (i:=(i:Int)) (k:= .i64) (by omega) (by simp;omega)
        simp only[Int.toNat_natCast]at hia
        have hld:∀ st,loadV 5 true st (elP 5 u i 0)=some (.agg o.vs):=fun st=> by
          rw[hu.load (el:=o.cells) (by simp[ho]) (by omega) (by omega)]
          rfl
        obtain⟨w0,w1,w2,w3,w4,hw⟩:∃ w0 w1 w2 w3 w4,o.vs= [w0,w1,w2,w3,w4]:=⟨_,_,_,_,_,rfl⟩
        rw[hw]at hden hld
        obtain⟨e,hee⟩:∃ e,e=(chkV o).2:=⟨_,rfl⟩
        obtain⟨k,hke⟩:∃ k,k=(chkV o).1:=⟨_,rfl⟩
        rw[← hee,← hke]at hden
        by_cases he:e=0
        · have hco:chkB o=true:=by simp[chkB,← hee,he]
          rw[he]at hden
          simp[F366_b0,hlt,hlen,hu.esc,hn1,hia,hld,ofDs,lay,hden,Z2]
          refine⟨os.length - (i+1),by omega,(hJ _ _ _).2 ⟨i+1,rfl,hlt,by simp,by simp[Z2],fun o' ho'=> ?_⟩⟩
          rw[List.take_add_one,ho,List.mem_append]at ho'
          rcases ho' with ho' | ho'
          · exact hq o' ho'
          · simp at ho'
            rw[ho',hco]
        · have hall:os.all chkB=false:=by
            rw[List.all_eq_false]
            exact⟨o,hom,by simp[chkB,← hee,he]⟩
          simp[F366_b0,hlt,hlen,hu.esc,hn1,hia,hld,ofDs,lay,hden,he,hall,fillV,Z2]
          exact⟨_,_,⟨rfl,rfl⟩,rfl,rfl,rfl,rfl⟩
      · obtain rfl:i=os.length:=by omega
        have hall:os.all chkB=true:=by
          rw[List.take_of_length_le (Nat.le_refl _)]at hq
          rw[List.all_eq_true]
          exact hq
        simp[F366_b0,hall,hlen,hu.esc,Z2]
    rcases hQ with⟨hall,e,rfl,g0,g2⟩ | ⟨hall,e,s,rfl,g2,g3,g4,t3⟩
    rotate_left
    · have hm:mrgR chkB os=([],[],[],161):=by rw[mrgR,if_neg h64,if_neg (by simp[hall])]
      rw[hm]
      simp[g2,g3,g4,t3,Z2,mrgV,dsl]
    have hmr:mrgR chkB os=match firstR (srtS (keysN (gathA os))) (gathA os) with
     | some (n,c)=> ([],[],n,c)
     | none=> ((srtS (keysN (gathA os))).flatMap fun n=> (getN' n (gathA os)).fs,(srtS (keysN (gathA os))).flatMap fun n=> (getN' n (gathA os)).ts.take 1,[],0):=by
      rw[mrgR,if_neg h64,if_pos hall]
      rfl
    have hfew:∀ o∈os,o.few:=fun o ho=> chkB_few (List.all_eq_true.1 hall o ho)
    have hd0:=fun st=> den_rSorted hp (st:=st) (v:=u) hu.c (by omega) hfew
    obtain⟨m,s1,hd1,hus⟩:=den_uses hp (P:= [(0,Z2)]) (st:=s0 [.row Z2] [] 0 0) hu (by omega) hfew rfl rfl (fun x hx=> by rw[List.mem_singleton]at hx;subst hx;rfl)
    have hGB:=gathA_GB hfew
    have hKB:=gathA_KB hfew
    generalize gathA os=G at hus hGB hKB hmr hd0
    obtain⟨S,hS⟩:∃ S,S=srtS (keysN G):=⟨_,rfl⟩
    rw[← hS]at hmr hd0
    have hSl:S.length≤196608:=by rw[hS,srtS_len];omega
    clear hS
    have hwo:(dsl txC true S).ok1=true:=rfl
    have hq0:(0,Z2)∈ [(0,Z2)]:=by simp
    simp only[Z2]at hd1
    obtain⟨T,hui⟩:=hus
    have hus:US m G [(0,Z2)] s1:=⟨T,hui⟩
    obtain⟨e',s4,⟨v1,e1,k2,k8,k9⟩ | ⟨n,c,v1,e1,k2,k3,k4,k0⟩⟩:=loopVV hp (S:=S) hus hq0 (hGB.mono (by omega)) (by omega)
    rotate_left
    · rw[v1]at hmr
      rw[hmr]
      obtain⟨w,hw⟩:∃ w,w=dsl txC true S:=⟨_,rfl⟩
      rw[← hw]at hd0 e1 hwo
      simp[g0,g2,hd0,hd1,hwo,e1,k2,k3,k4,k0,Z2,mrgV,dsl]
    have hfs1:∀ n∈S,(getN' n G).fs.length≤1:=fun n hn=> by
      have:=(firstR_none v1 n hn).1
      simp[twiceB]at this
      omega
    rw[v1]at hmr
    simp only at hmr
    rw[hmr]
    have hz4:=hui.pv _ hq0
    simp only at hz4
    have hUW:UW m G T s1.heap.length [] [] (s1.push (.row [.d (.sl 0 false []),.d (.sl 0 false [])])):=by
      refine⟨hui.fl,hui.tf,?_,?_,?_,_,_,none,none,row_push_new rfl,⟨rfl,rfl⟩,⟨rfl,rfl⟩,fun x y hx _=> by cases hx⟩
      · rw[mapOf_old (map_lt hui.mp)]
        exact hui.mp
      · have:=row_lt hz4
        omega
      · rw[row_old (row_lt hz4)]
        exact hz4
    obtain⟨e2,s5,q2,j2,j12,hw⟩:=loopQ hp (S:=S) hUW hfs1 (by omega)
    generalize (S.flatMap fun n=> (getN' n G).fs)=F at hw ⊢
    generalize (S.flatMap fun n=> (getN' n G).ts.take 1)=Tb at hw ⊢
    obtain⟨fv,tv,a,b,o1,o2,o3,_⟩:=hw.out
    have hz5:=hw.z
    have hsb:=fun cs=> setBlk_put (st:=s5) (id:=0) (cs:=cs) hw.fl
    have hr5:(s5.put 0 [fv,tv]).row 0=some [fv,tv]:=row_put_eq (row_lt hz5)
    have he1:=fun s'=> o2.esc s'
    have he2:=fun s'=> o3.esc s'
    simp[g0,g2,hd0,hd1,e1,k2,k8,k9,q2,j2,j12,o1,hz5,Z2,lay,ofDs,hsb,hr5,escs,he1,he2,mrgV]
end
end Go.Sh
