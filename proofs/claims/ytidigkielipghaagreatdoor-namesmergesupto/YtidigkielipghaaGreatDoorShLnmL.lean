/- Part of the proof. -/
import Derived.Test.YtidigkielipghaaGreatDoorShLnmK
set_option linter.unusedVariables false
set_option linter.unusedSimpArgs false
set_option linter.unusedSectionVars false
namespace Go.Sh
def mrgR (chk:ObS→Bool)(os:List ObS):List Bnd×List TbS×Byt8×Int:=
  if 64 < os.length then([],[],[],160) else if os.all chk then
   match firstR (srtS (keysN (gathA os))) (gathA os) with
   | some (n,c)=> ([],[],n,c)
   | none=> ((srtS (keysN (gathA os))).flatMap fun n=> (getN' n (gathA os)).fs,(srtS (keysN (gathA os))).flatMap fun n=> (getN' n (gathA os)).ts.take 1,[],0)
  else([],[],[],161)
structure ChkOk (pr:Prog)(chk:ObS→Bool)(o:ObS):Prop where
  c:∃ k e:Int,(∀ st,den pr 330 [.agg o.vs] st=some (.tup [.d (.i .i64 k),.d (.i .i64 e)],st))∧(e=0↔chk o=true)
  f:chk o=true→o.few
  n:∀ n∈namesO o,n.length≤9223372036854775807
def mrgV (x:List Bnd×List TbS×Byt8×Int):V:= .tup [.agg [dsl Bnd.cells (decide (0 < x.1.length)) x.1,dsl TbS.cells (decide (0 < x.2.1.length)) x.2.1],.d (.s x.2.2.1),.d (.i .i64 x.2.2.2)]
section
variable {pr:Prog}(hp:Sub nmFns pr){st:St}
include hp
theorem den_Merge (hf:pr.fn 333=none)(hg:pr.prim 333=some (pSortedS 345)){v:V}{os:List ObS}{chk:ObS→Bool}(hv:SlC 5 v (os.map ObS.cells))(hn:os.length≤1407374883553280)(hc:∀ o∈os,ChkOk pr chk o):
    den pr 320 [v] st=some (mrgV (mrgR chk os),st):=by
  obtain⟨u,hcl,hu⟩:=hv.close
  refine den_shut (hp.at 2 rfl) rfl rfl (by simp[hcl];rfl) ?_
  have hlen:=hu.len
  rw[List.length_map]at hlen
  by_cases h64:64 < os.length
  · have h64':(64:Int) < os.length:=by omega
    have hm:mrgR chk os=([],[],[],160):=by rw[mrgR,if_pos h64]
    rw[hm]
    simp[F320,hlen,h64',mrgV,fillV,lay,ofDs,dsl]
  · have h64':¬ (64:Int) < os.length:=by omega
    simp[F320,hlen,h64',fillV,lay,ofDs]
    generalize hL:cden pr (.loop _ _ F320_b0) _ _=q
    obtain⟨r,rfl,hQ⟩:∃ r,q=some r∧((os.all chk=true∧∃ e s,r=(.exit 0,e,s)∧e.get 0=some u∧e.get 2=some (.ptr 0 0)∧s.floor=0∧s.tfloor=0∧s.row 0=some Z2)∨(os.all chk=false∧∃ e s,r=(.ret,e,s)∧e.get 2=some (.ptr 0 0)∧e.get 3=some (.d (.s []))∧e.get 4=some (.d (.i .i64 161))∧s.row 0=some Z2)):=by
      rw[← hL]
      clear hL
      obtain⟨J,hJ⟩:∃ J:Nat→Env→St→Prop,∀ n e t,J n e t↔∃ i,n=os.length - i∧i≤os.length∧e= [(0,u),(2,.ptr 0 0),(23,u),(24,.d (.i .i64 os.length)),(25,.d (.i .i64 (i:Nat)))]∧t.floor=0∧t.tfloor=0∧t.row 0=some Z2∧∀ o∈os.take i,chk o=true:=⟨_,fun _ _ _=> Iff.rfl⟩
      refine loop_j J ?_ (n:=os.length) ((hJ _ _ _).2 ⟨0,by omega,by omega,by simp,rfl,rfl,rfl,fun o ho=> by simp at ho⟩)
      intro n e t hh
      obtain⟨i,rfl,hi,rfl,t1,t2,t3,hq⟩:=(hJ _ _ _).1 hh
      rcases Nat.lt_or_ge i os.length with hlt | hge
      · obtain⟨o,ho⟩:∃ o,os[i]? =some o:=⟨_,List.getElem?_eq_getElem hlt⟩
        have hom:=List.mem_of_getElem? ho
        obtain⟨k,e,hden,hck⟩:=(hc o hom).c
        have hn1:IntKind.wrap .i64 ((i:Int)+1)=i+1:=wrap_i64 (by omega) (by omega)
        have hia:=hu.iaddr (i:=(i:Int)) (k:= .i64) (by omega) (by simp;omega)
        simp only[Int.toNat_natCast]at hia
        have hld:∀ st,loadV 5 true st (elP 5 u i 0)=some (.agg o.vs):=fun st=> by
          rw[hu.load (el:=o.cells) (by simp[ho]) (by omega) (by omega)]
          rfl
        obtain⟨w0,w1,w2,w3,w4,hw⟩:∃ w0 w1 w2 w3 w4,o.vs= [w0,w1,w2,w3,w4]:=⟨_,_,_,_,_,rfl⟩
        rw[hw]at hden hld
        obtain⟨sp,hsp⟩:∃ sp,sp=t.push (.row [w0,w1,w2,w3,w4]):=⟨_,rfl⟩
        have hset6:∀ cs,(t.push (.row cs)).setBlk t.heap.length (.row [w0,w1,w2,w3,w4])=some sp:=fun cs=> by rw[setBlk_push rfl (by rw[t1];omega),hsp]
        have hrow6:∀ cs,(t.push (.row cs)).row t.heap.length=some cs:=fun cs=> row_push_new rfl
        have hr6:sp.row t.heap.length=some [w0,w1,w2,w3,w4]:=by rw[hsp];exact row_push_new rfl
        have p1:sp.floor=0:=by rw[hsp];exact t1
        have p2:sp.tfloor=0:=by rw[hsp];exact t2
        have p3:sp.row 0=some Z2:=by rw[hsp,row_old (row_lt t3)];exact t3
        have hsb:=fun cs=> setBlk_put (st:=sp) (id:=0) (cs:=cs) p1
        by_cases he:e=0
        · have hco:=hck.1 he
          rw[he]at hden
          simp[F320_b0,hlt,hn1,hia,hld,hset6,hrow6,ofDs,lay,hr6,hden]
          refine⟨os.length - (i+1),by omega,(hJ _ _ _).2 ⟨i+1,rfl,hlt,by simp,p1,p2,p3,fun o' ho'=> ?_⟩⟩
          rw[List.take_add_one,ho,List.mem_append]at ho'
          rcases ho' with ho' | ho'
          · exact hq o' ho'
          · simp at ho'
            rw[ho',hco]
        · have hall:os.all chk=false:=by
            rw[List.all_eq_false]
            exact⟨o,hom,fun h=> he (hck.2 h)⟩
          simp[F320_b0,hlt,hn1,hia,hld,hset6,hrow6,ofDs,lay,hr6,hden,he,hall,fillV,p3,Z2,hsb]
          exact⟨_,_,⟨rfl,rfl⟩,rfl,rfl,rfl,row_put_eq (row_lt p3)⟩
      · obtain rfl:i=os.length:=by omega
        have hall:os.all chk=true:=by
          rw[List.take_of_length_le (Nat.le_refl _)]at hq
          rw[List.all_eq_true]
          exact hq
        simp[F320_b0,hall,t1,t2,t3]
        exact⟨_,_,⟨rfl,rfl⟩,rfl,rfl,t1,t2,t3⟩
    rcases hQ with⟨hall,e,s,rfl,g0,g2,t1,t2,t3⟩ | ⟨hall,e,s,rfl,g2,g3,g4,t3⟩
    rotate_left
    · have hm:mrgR chk os=([],[],[],161):=by rw[mrgR,if_neg h64,if_neg (by simp[hall])]
      rw[hm]
      simp[g2,g3,g4,t3,Z2,mrgV,dsl]
    have hmr:mrgR chk os=match firstR (srtS (keysN (gathA os))) (gathA os) with
     | some (n,c)=> ([],[],n,c)
     | none=> ((srtS (keysN (gathA os))).flatMap fun n=> (getN' n (gathA os)).fs,(srtS (keysN (gathA os))).flatMap fun n=> (getN' n (gathA os)).ts.take 1,[],0):=by rw[mrgR,if_neg h64,if_pos hall]
    have hfew:∀ o∈os,o.few:=fun o ho=> (hc o ho).f (List.all_eq_true.1 hall o ho)
    obtain⟨m,bx,s1,hd1,hgs⟩:=den_gathered hp (P:= [(0,Z2)]) (st:=s) hu (by omega) hfew t1 t2 (fun x hx=> by rw[List.mem_singleton]at hx;subst hx;exact t3)
    have hGB:=gathA_GB hfew
    have hKB:=gathA_KB hfew
    have hkl:∀ k∈keysN (gathA os),k.length≤9223372036854775807:=fun k hk=> by
      obtain⟨o,ho,hi⟩:=(gathA_keys os k).1 hk
      exact(hc o ho).n k (inO_names hi)
    generalize gathA os=G at hgs hGB hKB hkl hmr
    have hd2:=den_keys hp (st:=s1) m
    have hgs2:=hgs.push [.map m]
    have hd3:=den_sorted hf hg hgs2 List.mem_cons_self (by omega) hkl
    obtain⟨S,hS⟩:∃ S,S=srtS (keysN G):=⟨_,rfl⟩
    rw[← hS]at hmr hd3
    have hSm:∀ n∈S,n∈keysN G:=fun n hn=> by rw[hS]at hn;exact srtS_mem.1 hn
    have hSl:S.length≤196608:=by rw[hS,srtS_len];omega
    clear hS
    generalize s1.heap.length=bx2 at hd2 hgs2 hd3
    obtain⟨s2,hs2⟩:∃ s2,s2=s1.push (.row [.map m]):=⟨_,rfl⟩
    rw[← hs2]at hd2 hgs2 hd3
    clear hs2 hgs
    have hgs3:=hgs2.push rulesV
    have hq0:(0,Z2)∈(s2.heap.length,rulesV)::(bx2,[V.map m])::(bx,[.map m]):: [(0,Z2)]:=by simp
    have hfcs:∀ f,(V.fn f []).cs= [.fn f []]:=fun _=> rfl
    have hfok:∀ f,(V.fn f []).ok1=true:=fun _=> rfl
    have hlv:lenV (dsl txC (decide (0 < S.length)) S)=some S.length:=rfl
    simp[g0,g2,hd1,hd2,hd3,fillV,lay,ofDs,reps,hfcs,hfok]
    generalize hL:cden pr (.loop _ _ F320_b1) _ _=q
    obtain⟨e,s4,⟨v1,e1,k2,k9,k10,hgs4⟩ | ⟨n,c,v1,e1,k2,k3,k4,k0⟩⟩:=loopRR hp (S:=S) (E:= [(2,.ptr 0 0),(9,.map m),(10,dsl txC (decide (0 < S.length)) S),(46,.rsl 2 s2.heap.length 0 3 3),(47,.d (.i .i64 3)),(48,.d (.i .i64 0))]) hgs3 hq0 List.mem_cons_self hSm (hGB.mono (by omega)) (by omega) rfl
    rotate_left
    · obtain rfl:some (.ret,e,s4)=q:=e1.symm.trans hL
      rw[v1]at hmr
      rw[hmr]
      simp[k2,k3,k4,k0,Z2,mrgV,dsl]
    obtain rfl:some (.exit 2,e,s4)=q:=e1.symm.trans hL
    rw[v1]at hmr
    simp only at hmr
    rw[hmr]
    simp[k2,k9,k10,ofDs,hlv]
    generalize hL:cden pr (.loop _ _ F320_b3) _ _=q
    obtain⟨R,T,hgi⟩:=hgs4
    have hz4:=(hgi.pv _ hq0).1
    simp only at hz4
    have hMW:MW m G R (fun n=> T n false) (fun n=> T n true) s4.heap.length [] [] (s4.push (.row [.d (.sl 0 false []),.d (.sl 0 false [])])):=by
      refine⟨hgi.fl,hgi.tf,?_,fun n hn=> ?_,fun n hn=> ?_,?_,?_,_,_,none,none,row_push_new rfl,⟨rfl,rfl⟩,⟨rfl,rfl⟩,fun x y hx _=> by cases hx⟩
      · rw[mapOf_old (map_lt hgi.mp)]
        exact hgi.mp
      · rw[row_old (row_lt (hgi.row n hn))]
        exact hgi.row n hn
      · have:=row_lt (hgi.row n hn)
        omega
      · have:=row_lt hz4
        omega
      · rw[row_old (row_lt hz4)]
        exact hz4
    obtain⟨e,s5,e2,j2,j15,hw⟩:=loopO hp (S:=S) (E:= [(2,.ptr 0 0),(9,.map m),(15,.ptr s4.heap.length 0),(70,dsl txC (decide (0 < S.length)) S),(71,.d (.i .i64 S.length)),(72,.d (.i .i64 0))]) hMW hSm (hGB.mono (by omega)) (by omega) rfl
    rw[e2]at hL
    subst hL
    generalize (S.flatMap fun n=> (getN' n G).fs)=F at hw ⊢
    generalize (S.flatMap fun n=> (getN' n G).ts.take 1)=Tb at hw ⊢
    obtain⟨fv,tv,a,b,o1,o2,o3,_⟩:=hw.out
    have hz5:=hw.z
    have hsb:=fun cs=> setBlk_put (st:=s5) (id:=0) (cs:=cs) hw.fl
    have hr5:(s5.put 0 [fv,tv]).row 0=some [fv,tv]:=row_put_eq (row_lt hz5)
    have he1:=fun s'=> o2.esc s'
    have he2:=fun s'=> o3.esc s'
    simp[j2,j15,o1,hz5,Z2,lay,hsb,hr5,escs,he1,he2,mrgV]
end
end Go.Sh
