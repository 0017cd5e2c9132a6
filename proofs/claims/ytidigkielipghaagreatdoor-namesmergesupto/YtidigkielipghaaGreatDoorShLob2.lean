/- Part of the proof. -/
import Derived.Test.YtidigkielipghaaGreatDoorShLob1
import Derived.Test.YtidigkielipghaaGreatDoorShFref12
import Derived.Test.YtidigkielipghaaGreatDoorShFref3
set_option linter.unusedVariables false
set_option linter.unusedSimpArgs false
set_option linter.unusedSectionVars false
namespace Go.Sh
def ref12Fns:List (Nat×SFn):= [(371,F371),(376,F376),(377,F377),(378,F378),(379,F379),(380,F380),(381,F381),(385,F385),(386,F386),(387,F387)]
def ref4nFns:List (Nat×SFn):= [(251,F251),(285,F285),(286,F286),(304,F304)]
def ref3sFns:List (Nat×SFn):= [(3,F3),(8,F8)]
theorem nameC_or (y:Int):nameC false y=(nameC true y || (decide (48≤y) && decide (y≤57)) || decide (y=46) || decide (y=36)):=by
  simp only[nameC,Bool.not_true,Bool.false_and,Bool.or_false,Bool.not_false,Bool.true_and,Bool.or_assoc]
theorem nameC_in {y:Int}(h:nameC true y=true):nameC false y=true:=by
  rw[nameC_or,h]
  rfl
theorem okFrom_all:∀ (s:Byt8) (i:Nat),okFrom (i+1) s=s.all fun c=> nameC false c.toNat
  | [],i=> rfl
  | c::r,i=> by
    rw[okFrom,okFrom_all r (i+1)]
    simp
theorem okName_all (c:UInt8)(r:Byt8):okFrom 0 (c::r)=(nameC true c.toNat && (c::r).all fun c=> nameC false c.toNat):=by
  rw[okFrom,okFrom_all]
  simp only[decide_true,List.all_cons]
  cases h:nameC true c.toNat
  · rfl
  · rw[nameC_in h]
    rfl
section
variable {pr:Prog}(hp:Sub ref4nFns pr){st:St}
include hp
theorem den_rletter (y:Int):den pr 285 [.d (.i .u8 y)] st=some (.d (.b (nameC true y)),st):=by
  refine den_shut (hp.at 1 rfl) rfl rfl (by simp;rfl) ?_
  by_cases c1:97≤y <;> by_cases c2:y≤122 <;> by_cases c3:65≤y <;> by_cases c4:y≤90 <;> by_cases c5:y=95 <;> simp[F285,nameC,c1,c2,c3,c4,c5]
theorem den_rdigit (y:Int):den pr 304 [.d (.i .u8 y)] st=some (.d (.b (decide (48≤y) && decide (y≤57))),st):=by
  refine den_shut (hp.at 3 rfl) rfl rfl (by simp;rfl) ?_
  by_cases c1:48≤y <;> by_cases c2:y≤57 <;> simp[F304,c1,c2]
theorem den_rinner (y:Int):den pr 286 [.d (.i .u8 y)] st=some (.d (.b (nameC false y)),st):=by
  refine den_shut (hp.at 2 rfl) rfl rfl (by simp;rfl) ?_
  have h1:=fun st=> den_rletter hp (st:=st) y
  have h2:=fun st=> den_rdigit hp (st:=st) y
  rw[nameC_or]
  generalize nameC true y=a at h1 ⊢
  generalize (decide (48≤y) && decide (y≤57))=b at h2 ⊢
  by_cases c1:y=46
  · subst c1
    cases a <;> cases b <;> simp[F286,h1,h2]
  · by_cases c2:y=36
    · subst c2
      cases a <;> cases b <;> simp[F286,h1,h2]
    · cases a <;> cases b <;> simp[F286,h1,h2,c1,c2]
theorem den_rName (s:Byt8)(hs:s.length≤9223372036854775807):den pr 251 [.d (.s s)] st=some (.d (.b (okNameO s)),st):=by
  refine den_shut (hp.at 0 rfl) rfl rfl (by simp;rfl) ?_
  unfold okNameO
  cases s with
  | nil=> simp[F251]
  | cons c r=>
    rw[okName_all]
    obtain⟨s,hse⟩:∃ s,s=c::r:=⟨_,rfl⟩
    have h0:s≠ []:=by rw[hse];simp
    have hc0:s[0]? =some c:=by rw[hse];rfl
    rw[← hse]at hs ⊢
    clear hse
    have hpos:0 < s.length:=List.length_pos_iff.2 h0
    have h0':¬ (s.length:Int) < 1:=by omega
    by_cases h1:64 < s.length
    · have h1':(64:Int) < s.length:=by omega
      have h1b:¬ s.length≤64:=by omega
      simp[F251,h0,h0',h1,h1',h1b]
    have h1':¬ (64:Int) < s.length:=by omega
    have h1b:s.length≤64:=by omega
    have hix0:idxSV (.d (.s s)) (.d (.i .i64 0))=some (.d (.i .u8 c.toNat)):=by
      have:idxSV (.d (.s s)) (.d (.i .i64 ((0:Nat):Int)))=some (.d (.i .u8 c.toNat)):=by simp[idxSV,intV,hc0]
      simpa using this
    have hl:=fun st=> den_rletter hp (st:=st) c.toNat
    cases hn:nameC true c.toNat
    · rw[hn]at hl
      simp[F251,h0,h0',h1,h1',h1b,hix0,hl]
    rw[hn]at hl
    simp[F251,h0,h0',h1,h1',h1b,hix0,hl]
    obtain⟨R,hR⟩:∃ R,R=s.all fun c=> nameC false c.toNat:=⟨_,rfl⟩
    rw[← hR]
    generalize hL:cden pr (.loop _ _ _) _ _=o
    obtain⟨r,rfl,hQ⟩:∃ r,o=some r∧((R=true∧∃ e,r=(.exit 0,e,s0 [] [] 0 0))∨(R=false∧∃ e,r=(.ret,e,s0 [] [] 0 0)∧e.get 2=some (.d (.b false)))):=by
      rw[← hL]
      clear hL
      refine loop_j (fun n e t=> ∃ i:Nat,n=s.length - i∧i≤s.length∧e= [(0,.d (.s s)),(3,.d (.i .i64 (i:Nat)))]∧t=s0 [] [] 0 0∧R=(s.drop i).all fun c=> nameC false c.toNat) ?_ (n:=s.length) ⟨0,by omega,by omega,by simp,by simp,by rw[hR];simp⟩
      rintro n e t ⟨i,rfl,hi,rfl,rfl,hok⟩
      rcases Nat.lt_or_ge i s.length with h | h
      · obtain⟨c',hc⟩:∃ c,s[i]? =some c:=⟨_,List.getElem?_eq_getElem h⟩
        rw[drop_cons9 hc,List.all_cons]at hok
        have hn1:IntKind.wrap .i64 ((i:Int)+1)=i+1:=wrap_i64 (by omega) (by omega)
        have hix:idxSV (.d (.s s)) (.d (.i .i64 (i:Int)))=some (.d (.i .u8 c'.toNat)):=by
          simp[idxSV,intV,hc]
        have hli:=fun st=> den_rinner hp (st:=st) c'.toNat
        have hlt:s.length - (i+1) < s.length - i:=by omega
        cases hb:nameC false c'.toNat
        · rw[hb]at hli hok
          simp[F251_b0,h,hn1,hix,hli,hok]
        · rw[hb,Bool.true_and]at hok
          rw[hb]at hli
          simp[F251_b0,h,hn1,hix,hli]
          exact⟨_,hlt,i+1,rfl,h,by simp,hok⟩
      · obtain rfl:i=s.length:=by omega
        rw[List.drop_length]at hok
        simp[F251_b0,hok]
    rcases hQ with⟨h5,e,rfl⟩ | ⟨h5,e,rfl,h2⟩
    · simp[h5]
    · simp[h2,h5]
end
section
variable {pr:Prog}(hp:Sub ref3sFns pr){st:St}
include hp
theorem den_wideO (x:Int):den pr 8 [.d (.i .i64 x)] st=some (.d (.b (decide (x=24))),st):=by
  refine den_shut (hp.at 1 rfl) rfl rfl (by simp;rfl) ?_
  simp[F8]
theorem den_rslots {v:V}{is:List Ins}(hv:SlC 5 v (is.map Ins.cells))(hl:is.length≤4611686018427387903):den pr 3 [v] st=some (.d (.i .i64 (slotsOf is)),st):=by
  obtain⟨u,hc,hu⟩:=hv.close
  refine den_shut (hp.at 0 rfl) rfl rfl (by simp[hc];rfl) ?_
  have hlen:=hu.len
  rw[List.length_map]at hlen
  simp[F3]
  generalize hL:cden pr (.loop _ _ _) _ _=o
  obtain⟨r,rfl,hQ⟩:∃ r,o=some r∧∃ e,r=(.exit 0,e,s0 [] [] 0 0)∧e.get 3=some (.d (.i .i64 (slotsOf is))):=by
    rw[← hL]
    refine loop_n is.length (fun i=> [(0,u),(3,.d (.i .i64 (slotsOf (is.take i)))),(4,.d (.i .i64 i))]) (fun _=> s0 [] [] 0 0) ?_ (by simp[slotsOf]) (by simp)
    intro i hi
    rcases Nat.lt_or_ge i is.length with h | h
    · obtain⟨x,hx⟩:∃ x,is[i]? =some x:=⟨_,List.getElem?_eq_getElem h⟩
      have hs:=slotsOf_le (is.take i)
      rw[List.length_take]at hs
      have h1:IntKind.wrap .i64 ((i:Int)+1)=i+1:=wrap_i64 (by omega) (by omega)
      have h2:IntKind.wrap .i64 ((slotsOf (is.take i):Int)+1)=slotsOf (is.take i)+1:=wrap_i64 (by omega) (by omega)
      have h3:IntKind.wrap .i64 ((slotsOf (is.take i):Int)+1+1)=slotsOf (is.take i)+1+1:=wrap_i64 (by omega) (by omega)
      have hia:=hu.iaddr (i:=(i:Int)) (k:= .i64) (by omega) (by simp;omega)
      simp only[Int.toNat_natCast]at hia
      have hld:∀ st,loadV 1 false st (elP 5 u i 0)=some (.d (.i .i64 x.op)):=fun st=> by
        rw[hu.load (el:=x.cells) (by simp[hx]) (by omega) (by omega)]
        rfl
      have hfa:=hu.faddr (i:=i) (o:=0) (off:=0)
      have hes:=fun st a b=> hu.esc st a b
      have hw:=fun st=> den_wideO hp (st:=st) x.op
      by_cases hop:x.op=24
      · rw[hop]at hld hw
        simp[F3_b0,h,hlen,hia,hld,hfa,hw,hop,h1,h2,h3,take_succ' hx,slotsOf_app,slotsOf,hes]
        omega
      · simp[F3_b0,h,hlen,hia,hld,hfa,hw,hop,h1,h2,take_succ' hx,slotsOf_app,slotsOf,hes]
    · obtain rfl:i=is.length:=by omega
      simp[F3_b0,hlen]
  obtain⟨e,rfl,h3⟩:=hQ
  simp[h3]
end
section
variable {pr:Prog}(hp:Sub ref12Fns pr){st:St}
include hp
theorem den_rsite (x:Ins):den pr 387 [.agg (ofDs x.cells)] st=some (.d (.i .i64 (siteI x)),st):=by
  refine den_shut (hp.at 9 rfl) rfl rfl (by simp;rfl) ?_
  obtain⟨op,dst,src,off,imm⟩:=x
  by_cases h1:op=133
  · by_cases h3:src=1 <;> simp[F387,Ins.cells,ofDs,h1,h3,siteI]
  · by_cases h2:op=24
    · by_cases h3:src=1 <;> simp[F387,Ins.cells,ofDs,h1,h2,h3,siteI]
    · simp[F387,Ins.cells,ofDs,h1,h2,siteI]
theorem den_rmany (hq:Sub ref3sFns pr)(o:ObS)(ho:o.ok):den pr 376 [.agg o.vs] st=some (.d (.i .i64 (manyV o)),st):=by
  have hsl:=fun st=> den_rslots hq (st:=st) (dsl_c insC o.n1 o.tx) (by have:=ho.tx;omega)
  refine den_shut (hp.at 1 rfl) rfl rfl (by simp[o.close];rfl) ?_
  unfold manyV
  by_cases h1:65536 < slotsOf o.tx
  · have h1':(65536:Int) < slotsOf o.tx:=by omega
    simp[F376,ObS.vs,hsl,h1,h1']
  · have h1':¬ (65536:Int) < slotsOf o.tx:=by omega
    by_cases h2:1024 < o.fn.length
    · have h2':(1024:Int) < o.fn.length:=by omega
      simp[F376,ObS.vs,hsl,h1,h1',h2,h2']
    · have h2':¬ (1024:Int) < o.fn.length:=by omega
      by_cases h3:1024 < o.tb.length
      · have h3':(1024:Int) < o.tb.length:=by omega
        simp[F376,ObS.vs,hsl,h1,h1',h2,h2',h3,h3']
      · have h3':¬ (1024:Int) < o.tb.length:=by omega
        by_cases h4:1024 < o.ex.length
        · have h4':(1024:Int) < o.ex.length:=by omega
          simp[F376,ObS.vs,hsl,h1,h1',h2,h2',h3,h3',h4,h4']
        · have h4':¬ (1024:Int) < o.ex.length:=by omega
          simp[F376,ObS.vs,hsl,h1,h1',h2,h2',h3,h3',h4,h4']
theorem den_rinsn (hR:RefOk pr)(x:Ins):den pr 380 [.agg (ofDs x.cells)] st=some (.d (.b (insOkO x)),st):=by
  refine den_shut (hp.at 5 rfl) rfl rfl (by simp;rfl) ?_
  have hm:=fun st=> den_rmay hR (st:=st) x
  have hs:=fun st=> den_rsite hp (st:=st) x
  unfold insOkO
  obtain⟨m,hmm⟩:∃ m,m=mayV x:=⟨_,rfl⟩
  obtain⟨k,hkk⟩:∃ k,k=siteI x:=⟨_,rfl⟩
  rw[← hmm]at hm ⊢
  rw[← hkk]at hs ⊢
  clear hmm hkk
  obtain⟨op,dst,src,off,imm⟩:=x
  simp only[Ins.cells,ofDs,List.map_cons,List.map_nil]at hm hs ⊢
  by_cases h1:m=0
  · by_cases h2:k=2
    · by_cases h4:imm= -1
      · subst h4
        simp[F380,hm,hs,h1,h2]
      · simp[F380,hm,hs,h1,h2,h4]
    · by_cases h3:k=1
      · by_cases h4:imm=0
        · subst h4
          simp[F380,hm,hs,h1,h2,h3]
        · simp[F380,hm,hs,h1,h2,h3,h4]
      · simp[F380,hm,hs,h1,h2,h3]
  · simp[F380,hm,hs,h1]
theorem den_rsize (t:TbS)(k1:1≤t.key)(k2:t.key≤64)(v1:1≤t.val)(v2:t.val≤4096)(e1:1≤t.ent)(e2:t.ent≤65536):den pr 386 [.agg (ofDs t.cells)] st=some (.d (.i .i64 (t.ent * (t.key+(t.val+7) / 8 * 8+8))),st):=by
  refine den_shut (hp.at 8 rfl) rfl rfl (by simp;rfl) ?_
  obtain⟨nm,kind,key,val,ent⟩:=t
  simp only at k1 k2 v1 v2 e1 e2 ⊢
  have w0:IntKind.wrap .i64 (val+7)=val+7:=wrap_i64 (by omega) (by omega)
  have wq:(val+7).tdiv 8=(val+7) / 8:=Int.tdiv_eq_ediv_of_nonneg (by omega)
  have wq':IntKind.wrap .i64 ((val+7) / 8)=(val+7) / 8:=wrap_i64 (by omega) (by omega)
  have wm:IntKind.wrap .i64 ((val+7) / 8 * 8)=(val+7) / 8 * 8:=wrap_i64 (by omega) (by omega)
  have w1:IntKind.wrap .i64 (key+(val+7) / 8 * 8)=key+(val+7) / 8 * 8:=wrap_i64 (by omega) (by omega)
  have w2:IntKind.wrap .i64 (key+(val+7) / 8 * 8+8)=key+(val+7) / 8 * 8+8:=wrap_i64 (by omega) (by omega)
  have hb:0≤ent * (key+(val+7) / 8 * 8+8)∧ent * (key+(val+7) / 8 * 8+8)≤65536 * 8192:=by
    constructor
    · exact Int.mul_nonneg (by omega) (by omega)
    · exact Int.mul_le_mul e2 (by omega) (by omega) (by omega)
  have w3:IntKind.wrap .i64 (ent * (key+(val+7) / 8 * 8+8))=ent * (key+(val+7) / 8 * 8+8):=wrap_i64 (by omega) (by omega)
  simp[F386,TbS.cells,ofDs,w0,wq,wq',wm,w1,w2,w3]
theorem den_rtab (t:TbS):den pr 379 [.agg (ofDs t.cells)] st=some (.d (.b (tabOkS t)),st):=by
  refine den_shut (hp.at 4 rfl) rfl rfl (by simp;rfl) ?_
  have hsz:=fun st k1 k2 v1 v2 e1 e2=> den_rsize hp (st:=st) t k1 k2 v1 v2 e1 e2
  obtain⟨nm,kind,key,val,ent⟩:=t
  simp only[TbS.cells,ofDs,List.map_cons,List.map_nil]at hsz ⊢
  unfold tabOkS
  simp only
  by_cases k1:key < 1
  · have k1':¬ 1≤key:=by omega
    have k4:¬ key=4:=by omega
    by_cases h1:kind=1 <;> by_cases h2:kind=2 <;> simp[F379,h1,h2,k1,k1',k4]
  have k1':1≤key:=by omega
  by_cases k2:64 < key
  · have k2':¬ key≤64:=by omega
    have k4:¬ key=4:=by omega
    by_cases h1:kind=1 <;> by_cases h2:kind=2 <;> simp[F379,h1,h2,k1,k1',k2,k2',k4]
  have k2':key≤64:=by omega
  by_cases v1:val < 1
  · have v1':¬ 1≤val:=by omega
    by_cases h1:kind=1 <;> by_cases h2:kind=2 <;> simp[F379,h1,h2,k1,k1',k2,k2',v1,v1']
  have v1':1≤val:=by omega
  by_cases v2:4096 < val
  · have v2':¬ val≤4096:=by omega
    by_cases h1:kind=1 <;> by_cases h2:kind=2 <;> simp[F379,h1,h2,k1,k1',k2,k2',v1,v1',v2,v2']
  have v2':val≤4096:=by omega
  by_cases e1:ent < 1
  · have e1':¬ 1≤ent:=by omega
    by_cases h1:kind=1 <;> by_cases h2:kind=2 <;> simp[F379,h1,h2,k1,k1',k2,k2',v1,v1',v2,v2',e1,e1']
  have e1':1≤ent:=by omega
  by_cases e2:65536 < ent
  · have e2':¬ ent≤65536:=by omega
    by_cases h1:kind=1 <;> by_cases h2:kind=2 <;> simp[F379,h1,h2,k1,k1',k2,k2',v1,v1',v2,v2',e1,e1',e2,e2']
  have e2':ent≤65536:=by omega
  have hsz:=fun st=> hsz st k1' k2' v1' v2' e1' e2'
  generalize ent * (key+(val+7) / 8 * 8+8)=m at hsz ⊢
  by_cases h1:kind=1
  · subst h1
    by_cases k4:key=4
    · subst k4
      simp[F379,v1,v1',v2,v2',e1,e1',e2,e2',hsz]
    · simp[F379,k1,k1',k2,k2',v1,v1',v2,v2',e1,e1',e2,e2',k4]
  · by_cases h2:kind=2
    · subst h2
      simp[F379,k1,k1',k2,k2',v1,v1',v2,v2',e1,e1',e2,e2',hsz]
    · simp[F379,h1,h2,k1,k1',k2,k2',v1,v1',v2,v2',e1,e1',e2,e2']
end
end Go.Sh
namespace Go.Sh
section
variable {pr:Prog}(hp:Sub ref12Fns pr){st:St}
include hp
theorem den_rNames (o:ObS)(h1:o.fn.length≤1024)(h2:o.tb.length≤1024)(h3:o.ex.length≤1024):den pr 385 [.agg o.vs] st=some (dsl txC (decide (0 < (namesO o).length)) (namesO o),st):=by
  refine den_shut (hp.at 7 rfl) rfl rfl (by simp[o.close];rfl) ?_
  have hu1:=dsl_d FnS.c4 o.n2 o.fn
  have hu2:=dsl_d TbS.c5 o.n3 o.tb
  have hu3:=dsl_d txC1 o.n4 o.ex
  obtain⟨u0,hu0⟩:∃ u,u=dsl Ins.cells o.n1 o.tx:=⟨_,rfl⟩
  obtain⟨u1,huv1⟩:∃ u,u=dsl FnS.cells o.n2 o.fn:=⟨_,rfl⟩
  obtain⟨u2,huv2⟩:∃ u,u=dsl TbS.cells o.n3 o.tb:=⟨_,rfl⟩
  obtain⟨u3,huv3⟩:∃ u,u=dsl txC o.n4 o.ex:=⟨_,rfl⟩
  obtain⟨u4,hu4⟩:∃ u,u=dsl RlS.cells o.n5 o.rl:=⟨_,rfl⟩
  have hl1:=hu1.len
  have hl2:=hu2.len
  have hl3:=hu3.len
  rw[List.length_map]at hl1 hl2 hl3
  rw[← huv1]at hu1 hl1
  rw[← huv2]at hu2 hl2
  rw[← huv3]at hu3 hl3
  simp[F385,ObS.vs,← hu0,← huv1,← huv2,← huv3,← hu4]
  obtain⟨C0,hC0⟩:∃ C:Nat→List D,∀ i,C i=(((o.fn.take i).map FnS.nm).map txC).flatten:=⟨_,fun _=> rfl⟩
  have hz0:C0 0= []:=by simp[hC0]
  have hcl0:∀ i,i≤o.fn.length→(C0 i).length=i:=fun i hi=> by rw[hC0,txC_len];simp;omega
  generalize hL:cden pr (.loop _ _ F385_b0) _ _=q
  obtain⟨r,rfl,hQ⟩:∃ r,q=some r∧∃ e,r=(.exit 0,e,s0 [.row [u0,u1,u2,u3,u4]] [o.fn.length] 0 0)∧e.get 1=some (.ptr 0 0)∧e.get 3=some (.own 1 (o.fn.length) (decide (0 < o.fn.length)) (C0 o.fn.length) 0):=by
    rw[← hL]
    clear hL
    refine loop_n o.fn.length (fun i=> [(1,.ptr 0 0),(3,.own 1 (i) (decide (0 < i)) (C0 i) 0),(4,.d (.i .i64 i))]) (fun i=> s0 [.row [u0,u1,u2,u3,u4]] [i] 0 0) ?_ (by simp[hz0]) (by simp)
    intro i hi
    rcases Nat.lt_or_ge i o.fn.length with h | h
    · obtain⟨x,hx⟩:∃ x,o.fn[i]? =some x:=⟨_,List.getElem?_eq_getElem h⟩
      have hn1:IntKind.wrap .i64 ((i:Int)+1)=i+1:=wrap_i64 (by omega) (by omega)
      have hia:=hu1.iaddr (i:=(i:Int)) (k:= .i64) (by omega) (by simp;omega)
      simp only[Int.toNat_natCast]at hia
      have hld:∀ st,loadV 1 false st (elP 4 u1 i 0)=some (.d (.s x.nm)):=fun st=> by
        rw[hu1.load (el:=x.cells) (by simp[hx]) (by omega) (by omega)]
        rfl
      have hfa:=hu1.faddr (i:=i) (o:=0) (off:=0)
      have hb1:(i+1) * 16≤140737488355328:=by omega
      have hb2:i+1≤140737488355328:=by omega
      have hC1:C0 (i+1)=C0 i++ [.s x.nm]:=by rw[hC0,hC0,List.take_add_one,hx];simp[txC]
      have hci:=hcl0 i hi
      simp[F385_b0,h,hl1,hn1,hia,hld,hfa,hu1.esc,ofDs,lay,fillV,reps,toDs,toD,appV,vw,hb1,hb2,hC1,hci]
    · obtain rfl:i=o.fn.length:=by omega
      simp[F385_b0,hl1,hu1.esc]
  obtain⟨e,rfl,he1,he3⟩:=hQ
  simp[he1,he3]
  obtain⟨C1,hC1⟩:∃ C:Nat→List D,∀ i,C i=((o.fn.map FnS.nm++(o.tb.take i).map TbS.nm).map txC).flatten:=⟨_,fun _=> rfl⟩
  have hz1:C1 0=C0 o.fn.length:=by simp[hC1,hC0]
  have hcl1:∀ i,i≤o.tb.length→(C1 i).length=o.fn.length+i:=fun i hi=> by rw[hC1,txC_len];simp;omega
  generalize hL:cden pr (.loop _ _ F385_b1) _ _=q
  obtain⟨r,rfl,hQ⟩:∃ r,q=some r∧∃ e,r=(.exit 2,e,s0 [.row [u0,u1,u2,u3,u4]] [o.fn.length+o.tb.length] 0 0)∧e.get 1=some (.ptr 0 0)∧e.get 3=some (.own 1 (o.fn.length+o.tb.length) (decide (0 < o.fn.length+o.tb.length)) (C1 o.tb.length) 0):=by
    rw[← hL]
    clear hL
    refine loop_n o.tb.length (fun i=> [(1,.ptr 0 0),(3,.own 1 (o.fn.length+i) (decide (0 < o.fn.length+i)) (C1 i) 0),(5,.d (.i .i64 i))]) (fun i=> s0 [.row [u0,u1,u2,u3,u4]] [o.fn.length+i] 0 0) ?_ (by simp[hz1]) (by simp)
    intro i hi
    rcases Nat.lt_or_ge i o.tb.length with h | h
    · obtain⟨x,hx⟩:∃ x,o.tb[i]? =some x:=⟨_,List.getElem?_eq_getElem h⟩
      have hn1:IntKind.wrap .i64 ((i:Int)+1)=i+1:=wrap_i64 (by omega) (by omega)
      have hia:=hu2.iaddr (i:=(i:Int)) (k:= .i64) (by omega) (by simp;omega)
      simp only[Int.toNat_natCast]at hia
      have hld:∀ st,loadV 1 false st (elP 5 u2 i 0)=some (.d (.s x.nm)):=fun st=> by
        rw[hu2.load (el:=x.cells) (by simp[hx]) (by omega) (by omega)]
        rfl
      have hfa:=hu2.faddr (i:=i) (o:=0) (off:=0)
      obtain⟨k,hk⟩:∃ k,k=o.fn.length+i:=⟨_,rfl⟩
      have hk1:o.fn.length+(i+1)=k+1:=by omega
      have hb1:(k+1) * 16≤140737488355328:=by omega
      have hb2:k+1≤140737488355328:=by omega
      have hC1:C1 (i+1)=C1 i++ [.s x.nm]:=by rw[hC1,hC1,List.take_add_one,hx];simp[txC]
      have hci:=hcl1 i hi
      rw[← hk]at hci
      simp only[hk1,← hk]
      simp[F385_b1,h,hl2,hn1,hia,hld,hfa,hu2.esc,ofDs,lay,fillV,reps,toDs,toD,appV,vw,hb1,hb2,hC1,hci]
      rw[hk1]
      first | exact⟨⟨rfl,by omega⟩,rfl⟩ | exact⟨rfl,by omega⟩ | rfl | omega
    · obtain rfl:i=o.tb.length:=by omega
      simp[F385_b1,hl2,hu2.esc]
  obtain⟨e,rfl,he1,he3⟩:=hQ
  simp[he1,he3]
  obtain⟨C2,hC2⟩:∃ C:Nat→List D,∀ i,C i=((o.fn.map FnS.nm++o.tb.map TbS.nm++(o.ex.take i)).map txC).flatten:=⟨_,fun _=> rfl⟩
  have hz2:C2 0=C1 o.tb.length:=by simp[hC2,hC1]
  have hcl2:∀ i,i≤o.ex.length→(C2 i).length=o.fn.length+o.tb.length+i:=fun i hi=> by rw[hC2,txC_len];simp;omega
  generalize hL:cden pr (.loop _ _ F385_b2) _ _=q
  obtain⟨r,rfl,hQ⟩:∃ r,q=some r∧∃ e,r=(.exit 4,e,s0 [.row [u0,u1,u2,u3,u4]] [o.fn.length+o.tb.length+o.ex.length] 0 0)∧e.get 1=some (.ptr 0 0)∧e.get 3=some (.own 1 (o.fn.length+o.tb.length+o.ex.length) (decide (0 < o.fn.length+o.tb.length+o.ex.length)) (C2 o.ex.length) 0):=by
    rw[← hL]
    clear hL
    refine loop_n o.ex.length (fun i=> [(1,.ptr 0 0),(3,.own 1 (o.fn.length+o.tb.length+i) (decide (0 < o.fn.length+o.tb.length+i)) (C2 i) 0),(6,.d (.i .i64 i))]) (fun i=> s0 [.row [u0,u1,u2,u3,u4]] [o.fn.length+o.tb.length+i] 0 0) ?_ (by simp[hz2]) (by simp)
    intro i hi
    rcases Nat.lt_or_ge i o.ex.length with h | h
    · obtain⟨x,hx⟩:∃ x,o.ex[i]? =some x:=⟨_,List.getElem?_eq_getElem h⟩
      have hn1:IntKind.wrap .i64 ((i:Int)+1)=i+1:=wrap_i64 (by omega) (by omega)
      have hia:=hu3.iaddr (i:=(i:Int)) (k:= .i64) (by omega) (by simp;omega)
      simp only[Int.toNat_natCast]at hia
      have hld:∀ st,loadV 1 false st (elP 1 u3 i 0)=some (.d (.s x)):=fun st=> by
        rw[hu3.load (el:=txC x) (by simp[hx]) (by omega) (by omega)]
        rfl
      have hfa:=hu3.faddr (i:=i) (o:=0) (off:=0)
      obtain⟨k,hk⟩:∃ k,k=o.fn.length+o.tb.length+i:=⟨_,rfl⟩
      have hk1:o.fn.length+o.tb.length+(i+1)=k+1:=by omega
      have hb1:(k+1) * 16≤140737488355328:=by omega
      have hb2:k+1≤140737488355328:=by omega
      have hC1:C2 (i+1)=C2 i++ [.s x]:=by rw[hC2,hC2,List.take_add_one,hx];simp[txC]
      have hci:=hcl2 i hi
      rw[← hk]at hci
      simp only[hk1,← hk]
      simp[F385_b2,h,hl3,hn1,hia,hld,hfa,hu3.esc,ofDs,lay,fillV,reps,toDs,toD,appV,vw,hb1,hb2,hC1,hci]
      rw[hk1]
      first | exact⟨⟨rfl,by omega⟩,rfl⟩ | exact⟨rfl,by omega⟩ | rfl | omega
    · obtain rfl:i=o.ex.length:=by omega
      simp[F385_b2,hl3,hu3.esc]
  obtain⟨e,rfl,he1,he3⟩:=hQ
  simp[he1,he3]
  have hfin:dsl txC (decide (0 < (namesO o).length)) (namesO o)= .d (.sl (o.fn.length+o.tb.length+o.ex.length) (decide (0 < o.fn.length+o.tb.length+o.ex.length)) (C2 o.ex.length)):=by
    have hnl:(namesO o).length=o.fn.length+o.tb.length+o.ex.length:=by simp[namesO];omega
    rw[← hnl,hC2,List.take_length]
    rfl
  rw[hfin]
end
end Go.Sh
namespace Go.Sh
def seenC (ns:List Byt8):List (D×V):=ns.map fun s=> (.s s,.d (.i .i64 1))
theorem find_seenC (s:Byt8):∀ (ns:List Byt8),findE (.s s) (seenC ns)=some (if s∈ns then some (.d (.i .i64 1)) else none)
  | []=> by simp[findE,seenC]
  | n::r=> by
    have ih:=find_seenC s r
    unfold seenC at ih ⊢
    rw[List.map_cons,findE]
    by_cases h:s=n
    · subst h
      simp[eqD]
    · have h':(s==n)=false:=by simpa using h
      simp only[eqD,h',ih]
      by_cases hm:s∈r
      · simp[h,hm]
      · simp[h,hm]
theorem set_seenC (s:Byt8):∀ (ns:List Byt8),s∉ns→setE (.s s) (.d (.i .i64 1)) (seenC ns)=some (seenC (ns++ [s]))
  | [],_=> by simp[setE,seenC]
  | n::r,h=> by
    rw[List.mem_cons,not_or]at h
    have ih:=set_seenC s r h.2
    have h':(s==n)=false:=by simpa using h.1
    unfold seenC at ih ⊢
    rw[List.map_cons,setE]
    simp[eqD,h',ih]
def namesV (N:List Byt8):Int×Int:=match badI okNameO N with
  | some i=> ((i:Nat),122)
  | none=> match twI N with
    | some i=> ((i:Nat),123)
    | none=> (0,0)
section
variable {pr:Prog}(hp:Sub ref12Fns pr){st:St}
include hp
set_option maxHeartbeats 4000000 in
theorem den_rnames (h4:Sub ref4nFns pr)(o:ObS)(h1:o.fn.length≤1024)(h2:o.tb.length≤1024)(h3:o.ex.length≤1024)(hs:∀ s∈namesO o,s.length≤9223372036854775807):den pr 377 [.agg o.vs] st=some (.tup [.d (.i .i64 (namesV (namesO o)).1),.d (.i .i64 (namesV (namesO o)).2)],st):=by
  refine den_shut (hp.at 2 rfl) rfl rfl (by simp[o.close];rfl) ?_
  have hnm:=fun st=> den_rNames hp (st:=st) o h1 h2 h3
  have hu5:=dsl_d txC1 (decide (0 < (namesO o).length)) (namesO o)
  have hnl:(namesO o).length≤3072:=by simp[namesO];omega
  obtain⟨N,hN⟩:∃ N,N=namesO o:=⟨_,rfl⟩
  obtain⟨w,hw⟩:∃ w,w=o.vs:=⟨_,rfl⟩
  have hw5:∃ w0 w1 w2 w3 w4,w= [w0,w1,w2,w3,w4]:=⟨_,_,_,_,_,hw⟩
  rw[← hN]at hnm hu5 hnl hs ⊢
  rw[← hw]at hnm ⊢
  clear hN hw
  obtain⟨w0,w1,w2,w3,w4,rfl⟩:=hw5
  obtain⟨u5,huv5⟩:∃ u,u=dsl txC (decide (0 < N.length)) N:=⟨_,rfl⟩
  have hl5:=hu5.len
  rw[List.length_map]at hl5
  rw[← huv5]at hnm hu5 hl5
  clear huv5
  have hld5:∀ (i:Nat) (s:Byt8),N[i]? =some s→∀ st,loadV 1 false st (elP 1 u5 i 0)=some (.d (.s s)):=fun i s hx st=> by
    rw[hu5.load (el:=txC s) (by simp[hx]) (by omega) (by omega)]
    rfl
  obtain⟨C,hC⟩:∃ C,C=namesV N:=⟨_,rfl⟩
  rw[← hC]
  unfold namesV at hC
  simp[F377,hnm]
  generalize hL:cden pr (.loop _ _ F377_b0) _ _=q
  obtain⟨r,rfl,hQ⟩:∃ r,q=some r∧((∃ e,r=(.exit 0,e,s0 [.row [w0,w1,w2,w3,w4]] [] 0 0)∧badI okNameO N=none∧e.get 4=some u5)∨(∃ e s,∃ i:Nat,r=(.ret,e,s)∧badI okNameO N=some i∧e.get 2=some (.d (.i .i64 i))∧e.get 3=some (.d (.i .i64 122)))):=by
    rw[← hL]
    clear hL hC
    refine loop_j (fun n e s=> ∃ i,n=N.length - i∧i≤N.length∧e= [(4,u5),(5,.d (.i .i64 (i:Nat)))]∧s=s0 [.row [w0,w1,w2,w3,w4]] [] 0 0∧(∀ y∈N.take i,okNameO y=true)) ?_ (n:=N.length) ⟨0,by omega,by omega,by simp,by simp,by simp⟩
    rintro n e s ⟨i,rfl,hi,rfl,rfl,hA⟩
    rcases Nat.lt_or_ge i N.length with h | h
    · have hn1:IntKind.wrap .i64 ((i:Int)+1)=i+1:=wrap_i64 (by omega) (by omega)
      have hlt:N.length - (i+1) < N.length - i:=by omega
      obtain⟨x,hx⟩:∃ x,N[i]? =some x:=⟨_,List.getElem?_eq_getElem h⟩
      have hia:=hu5.iaddr (i:=(i:Int)) (k:= .i64) (by omega) (by simp;omega)
      simp only[Int.toNat_natCast]at hia
      have hld:=hld5 i x hx
      have hnd:=fun st=> den_rName h4 (st:=st) x (hs x (List.mem_of_getElem? hx))
      obtain⟨b,hbe⟩:∃ b,b=okNameO x:=⟨_,rfl⟩
      rw[← hbe]at hnd
      cases b
      · have hbad:=badI_some hx hbe.symm hA
        simp[F377_b0,h,hl5,hn1,hia,hld,hnd,hbad]
      · have hA':=take_allo hx hbe.symm hA
        simp[F377_b0,h,hl5,hn1,hia,hld,hnd]
        exact⟨_,hlt,i+1,rfl,h,by simp,hA'⟩
    · obtain rfl:i=N.length:=by omega
      rw[List.take_length]at hA
      have hbn:=badI_none.2 hA
      simp[F377_b0,hl5,hbn]
  rcases hQ with⟨e,rfl,hno,he4⟩ | ⟨e,s,i,rfl,hso,he2,he3⟩
  rotate_left
  · rw[hso]at hC
    simp[he2,he3,hC]
  rw[hno]at hC
  simp only at hC
  simp[he4]
  generalize hL:cden pr (.loop _ _ F377_b1) _ _=q
  obtain⟨r,rfl,hQ⟩:∃ r,q=some r∧((∃ e s,r=(.exit 2,e,s)∧twI N=none)∨(∃ e s,∃ i:Nat,r=(.ret,e,s)∧twI N=some i∧e.get 2=some (.d (.i .i64 i))∧e.get 3=some (.d (.i .i64 123)))):=by
    rw[← hL]
    clear hL hC
    refine loop_j (fun n e s=> ∃ i,n=N.length - i∧i≤N.length∧e= [(4,u5),(6,.map 1),(7,.d (.i .i64 (i:Nat)))]∧s=s0 [.row [w0,w1,w2,w3,w4],.map (seenC (N.take i))] [] 0 0∧(∀ (j:Nat) y,j < i→N[j]? =some y→y∉N.take j)) ?_ (n:=N.length) ⟨0,by omega,by omega,by simp,by simp[seenC],by simp⟩
    rintro n e s ⟨i,rfl,hi,rfl,rfl,hA⟩
    rcases Nat.lt_or_ge i N.length with h | h
    · have hn1:IntKind.wrap .i64 ((i:Int)+1)=i+1:=wrap_i64 (by omega) (by omega)
      have hw1:IntKind.wrap .i64 1=1:=by decide
      have hlt:N.length - (i+1) < N.length - i:=by omega
      obtain⟨x,hx⟩:∃ x,N[i]? =some x:=⟨_,List.getElem?_eq_getElem h⟩
      have hia:=hu5.iaddr (i:=(i:Int)) (k:= .i64) (by omega) (by simp;omega)
      simp only[Int.toNat_natCast]at hia
      have hld:=hld5 i x hx
      have hf:=find_seenC x (N.take i)
      by_cases hm:x∈N.take i
      · rw[if_pos hm]at hf
        have hbad:=twI_some hx hm hA
        simp[F377_b1,h,hl5,hn1,hia,hld,lookV,keyOk,hf,lookOut,zeroV,hbad]
      · rw[if_neg hm]at hf
        have hset:=set_seenC x (N.take i) hm
        rw[← take_succ' hx]at hset
        have hA':∀ (j:Nat) y,j < i+1→N[j]? =some y→y∉N.take j:=by
          intro j y hj hy
          rcases Nat.lt_or_ge j i with hj' | hj'
          · exact hA j y hj' hy
          · obtain rfl:j=i:=by omega
            rw[hx]at hy
            cases hy
            exact hm
        simp[F377_b1,h,hl5,hn1,hw1,hia,hld,lookV,keyOk,hf,lookOut,zeroV,mapSetV,hset]
        exact⟨_,hlt,i+1,rfl,h,by simp,by simp,hA'⟩
    · obtain rfl:i=N.length:=by omega
      have hbn:=twI_none fun j y hy=> hA j y (List.getElem?_eq_some_iff.1 hy).1 hy
      simp[F377_b1,hl5,hbn]
  rcases hQ with⟨e,s,rfl,hno⟩ | ⟨e,s,i,rfl,hso,he2,he3⟩
  · rw[hno]at hC
    simp[hC]
  · rw[hso]at hC
    simp[he2,he3,hC]
end
end Go.Sh
namespace Go.Sh
section
variable {pr:Prog}(hp:Sub ref12Fns pr){st:St}
include hp
theorem den_rfuncs (o:ObS)(ho:o.ok):den pr 378 [.agg o.vs] st=some (.d (.i .i64 (cutW o.tx.length 0 0 o.fn)),st):=by
  refine den_shut (hp.at 3 rfl) rfl rfl (by simp[o.close];rfl) ?_
  have hu1:=dsl_d FnS.c4 o.n2 o.fn
  have hu0:=dsl_d insC o.n1 o.tx
  have b0:=ho.tx
  have b1:=ho.fn
  obtain⟨u0,huv0⟩:∃ u,u=dsl Ins.cells o.n1 o.tx:=⟨_,rfl⟩
  obtain⟨u1,huv1⟩:∃ u,u=dsl FnS.cells o.n2 o.fn:=⟨_,rfl⟩
  obtain⟨u2,huv2⟩:∃ u,u=dsl TbS.cells o.n3 o.tb:=⟨_,rfl⟩
  obtain⟨u3,huv3⟩:∃ u,u=dsl txC o.n4 o.ex:=⟨_,rfl⟩
  obtain⟨u4,hu4⟩:∃ u,u=dsl RlS.cells o.n5 o.rl:=⟨_,rfl⟩
  have hl0:=hu0.len
  have hl1:=hu1.len
  rw[List.length_map]at hl1 hl0
  rw[← huv0]at hu0 hl0
  rw[← huv1]at hu1 hl1
  simp[F378,ObS.vs,← huv0,← huv1,← huv2,← huv3,← hu4]
  obtain⟨R,hR⟩:∃ R,R=cutW o.tx.length 0 0 o.fn:=⟨_,rfl⟩
  rw[← hR]
  generalize hL:cden pr (.loop _ _ F378_b0) _ _=q
  obtain⟨r,rfl,hQ⟩:∃ r,q=some r∧((∃ e a,r=(.exit 0,e,s0 [.row [u0,u1,u2,u3,u4]] [] 0 0)∧e.get 1=some (.ptr 0 0)∧e.get 3=some (.d (.i .i64 a))∧a≤o.tx.length∧R=if a < (o.tx.length:Int) then(o.fn.length:Int) else -1)∨(∃ e s,r=(.ret,e,s)∧e.get 2=some (.d (.i .i64 R)))):=by
    rw[← hL]
    clear hL
    refine loop_j (fun n e s=> ∃ (i:Nat) (a:Int),n=o.fn.length - i∧i≤o.fn.length∧e= [(1,.ptr 0 0),(3,.d (.i .i64 a)),(4,.d (.i .i64 (i:Nat)))]∧s=s0 [.row [u0,u1,u2,u3,u4]] [] 0 0∧R=cutW o.tx.length a i (o.fn.drop i)∧0≤a∧a≤o.tx.length) ?_ (n:=o.fn.length) ⟨0,0,by omega,by omega,by simp,by simp,by rw[hR];simp,by omega,by omega⟩
    rintro n e s ⟨i,a,rfl,hi,rfl,rfl,hRa,ha0,ha1⟩
    rcases Nat.lt_or_ge i o.fn.length with h | h
    · obtain⟨x,hx⟩:∃ x,o.fn[i]? =some x:=⟨_,List.getElem?_eq_getElem h⟩
      have hn1:IntKind.wrap .i64 ((i:Int)+1)=i+1:=wrap_i64 (by omega) (by omega)
      have hia:=hu1.iaddr (i:=(i:Int)) (k:= .i64) (by omega) (by simp;omega)
      simp only[Int.toNat_natCast]at hia
      have hld:∀ st,loadV 4 true st (elP 4 u1 i 0)=some (.agg (ofDs x.cells)):=fun st=> by
        rw[hu1.load (el:=x.cells) (by simp[hx]) (by omega) (by omega)]
        rfl
      have hw:IntKind.wrap .i64 ((o.tx.length:Int) - a)=o.tx.length - a:=wrap_i64 (by omega) (by omega)
      have hlt:o.fn.length - (i+1) < o.fn.length - i:=by omega
      rw[drop_cons9 hx,cutW]at hRa
      by_cases c1:x.fi=a
      · by_cases c2:x.co < 1
        · rw[if_pos (.inr (.inl c2))]at hRa
          simp[F378_b0,h,hl1,hn1,hia,hld,hu1.esc,FnS.cells,ofDs,lay,c1,c2,hRa]
        · by_cases c3:(o.tx.length:Int) - a < x.co
          · rw[if_pos (.inr (.inr c3))]at hRa
            simp[F378_b0,h,hl1,hn1,hia,hld,hu1.esc,FnS.cells,ofDs,lay,c1,c2,hl0,hw,c3,hRa]
          · rw[if_neg (by rintro(e | e | e) <;> omega)]at hRa
            have hw2:IntKind.wrap .i64 (a+x.co)=a+x.co:=wrap_i64 (by omega) (by omega)
            simp[F378_b0,h,hl1,hn1,hia,hld,hu1.esc,FnS.cells,ofDs,lay,c1,c2,hl0,hw,c3,hw2]
            exact⟨_,hlt,i+1,rfl,h,a+x.co,by simp,hRa,by omega,by omega⟩
      · rw[if_pos (.inl c1)]at hRa
        simp[F378_b0,h,hl1,hn1,hia,hld,hu1.esc,FnS.cells,ofDs,lay,c1,hRa]
    · obtain rfl:i=o.fn.length:=by omega
      rw[List.drop_length,cutW]at hRa
      simp[F378_b0,hl1,hu1.esc,hRa,ha1]
  rcases hQ with⟨e,a,rfl,he1,he3,ha1,hRR⟩ | ⟨e,s,rfl,he2⟩
  · by_cases c:a < (o.tx.length:Int)
    · have c':¬ a=(o.tx.length:Int):=by omega
      rw[if_pos c]at hRR
      simp[he1,he3,hl0,hl1,c',hRR]
    · have c':a=(o.tx.length:Int):=by omega
      rw[if_neg c]at hRR
      subst c'
      simp[he1,he3,hl0,hl1,hRR]
  · simp[he2]
end
end Go.Sh
namespace Go.Sh
section
variable {pr:Prog}(hp:Sub ref12Fns pr){st:St}
include hp
theorem den_rrelocs (o:ObS)(ho:o.ok):den pr 381 [.agg o.vs] st=some (.d (.i .i64 (relW o.tb.length (o.fn.length+o.ex.length) 0 0 o.tx o.rl)),st):=by
  refine den_shut (hp.at 6 rfl) rfl rfl (by simp[o.close];rfl) ?_
  have hu1:=dsl_d FnS.c4 o.n2 o.fn
  have hu0:=dsl_d insC o.n1 o.tx
  have hu2:=dsl_d TbS.c5 o.n3 o.tb
  have hu3:=dsl_d txC1 o.n4 o.ex
  have hu4:=dsl_d RlS.c3 o.n5 o.rl
  obtain⟨u0,huv0⟩:∃ u,u=dsl Ins.cells o.n1 o.tx:=⟨_,rfl⟩
  obtain⟨u1,huv1⟩:∃ u,u=dsl FnS.cells o.n2 o.fn:=⟨_,rfl⟩
  obtain⟨u2,huv2⟩:∃ u,u=dsl TbS.cells o.n3 o.tb:=⟨_,rfl⟩
  obtain⟨u3,huv3⟩:∃ u,u=dsl txC o.n4 o.ex:=⟨_,rfl⟩
  obtain⟨u4,huv4⟩:∃ u,u=dsl RlS.cells o.n5 o.rl:=⟨_,rfl⟩
  have hl0:=hu0.len
  have hl1:=hu1.len
  have hl2:=hu2.len
  have hl3:=hu3.len
  have hl4:=hu4.len
  rw[List.length_map]at hl0 hl1 hl2 hl3 hl4
  rw[← huv0]at hu0 hl0
  rw[← huv1]at hu1 hl1
  rw[← huv2]at hu2 hl2
  rw[← huv3]at hu3 hl3
  rw[← huv4]at hu4 hl4
  have b0:=ho.tx
  have b1:=ho.fn
  have b3:=ho.ex
  have b4:=ho.rl
  simp[F381,ObS.vs,← huv0,← huv1,← huv2,← huv3,← huv4]
  obtain⟨R,hR⟩:∃ R,R=relW o.tb.length (o.fn.length+o.ex.length) 0 0 o.tx o.rl:=⟨_,rfl⟩
  rw[← hR]
  generalize hL:cden pr (.loop _ _ F381_b0) _ _=q
  obtain⟨r,rfl,hQ⟩:∃ r,q=some r∧((∃ e,∃ a:Nat,r=(.exit 0,e,s0 [.row [u0,u1,u2,u3,u4]] [] 0 0)∧e.get 1=some (.ptr 0 0)∧e.get 3=some (.d (.i .i64 (a:Nat)))∧a≤o.rl.length∧R=if o.rl.drop a= []then -1 else(a:Int))∨(∃ e,r=(.ret,e,s0 [.row [u0,u1,u2,u3,u4]] [] 0 0)∧e.get 2=some (.d (.i .i64 R)))):=by
    rw[← hL]
    clear hL
    refine loop_j (fun n e s=> ∃ i a:Nat,n=o.tx.length - i∧i≤o.tx.length∧a≤o.rl.length∧e= [(1,.ptr 0 0),(3,.d (.i .i64 a)),(4,.d (.i .i64 (i:Nat)))]∧s=s0 [.row [u0,u1,u2,u3,u4]] [] 0 0∧R=relW o.tb.length (o.fn.length+o.ex.length) i a (o.tx.drop i) (o.rl.drop a)) ?_ (n:=o.tx.length) ⟨0,0,by omega,by omega,by omega,by simp,by simp,by rw[hR];simp⟩
    rintro n e s ⟨i,a,rfl,hi,ha,rfl,rfl,hRa⟩
    rcases Nat.lt_or_ge i o.tx.length with h | h
    · obtain⟨x,hx⟩:∃ x,o.tx[i]? =some x:=⟨_,List.getElem?_eq_getElem h⟩
      have hn1:IntKind.wrap .i64 ((i:Int)+1)=i+1:=wrap_i64 (by omega) (by omega)
      have hna:IntKind.wrap .i64 ((a:Int)+1)=a+1:=wrap_i64 (by omega) (by omega)
      have hia:=hu0.iaddr (i:=(i:Int)) (k:= .i64) (by omega) (by simp;omega)
      simp only[Int.toNat_natCast]at hia
      have hld:∀ st,loadV 5 true st (elP 5 u0 i 0)=some (.agg (ofDs x.cells)):=fun st=> by
        rw[hu0.load (el:=x.cells) (by simp[hx]) (by omega) (by omega)]
        rfl
      have hs:=fun st=> den_rsite hp (st:=st) x
      have hk3:=siteI_012 x
      rw[drop_cons9 hx,relW_c]at hRa
      obtain⟨k,hkk⟩:∃ k,k=siteI x:=⟨_,rfl⟩
      rw[← hkk]at hs hRa hk3
      clear hkk
      have hlt:o.tx.length - (i+1) < o.tx.length - i:=by omega
      obtain⟨c0,hc0⟩:∃ c,ofDs x.cells=c∧c.length=5:=⟨_,rfl,rfl⟩
      obtain⟨q0,q1,q2,q3,q4,rfl⟩:∃ q0 q1 q2 q3 q4,c0= [q0,q1,q2,q3,q4]:=by
        match c0,hc0.2 with
        | [a,b,c,d,e],_=> exact⟨a,b,c,d,e,rfl⟩
      rw[hc0.1]at hld hs
      have hw:IntKind.wrap .i64 ((o.fn.length:Int)+o.ex.length)=o.fn.length+o.ex.length:=wrap_i64 (by omega) (by omega)
      by_cases c1:k=0
      · rw[if_pos c1]at hRa
        simp[F381_b0,h,hl0,hn1,hia,hld,hu0.esc,lay,ofDs,hs,c1]
        exact⟨_,hlt,i+1,rfl,h,a,ha,by simp,hRa⟩
      · rw[if_neg c1]at hRa
        by_cases c2:a=o.rl.length
        · have c2':(o.rl.length:Int)≤a:=by omega
          have c2n:o.rl.length≤a:=by omega
          have hd:o.rl.drop a= []:=List.drop_of_length_le (by omega)
          rw[hd]at hRa
          simp only at hRa
          by_cases c3:k=2
          · simp[F381_b0,h,hl0,hn1,hia,hld,hu0.esc,lay,ofDs,hs,c1,c3,hl1,hl2,hl3,hl4,hw,c2',c2n,hRa]
          · simp[F381_b0,h,hl0,hn1,hia,hld,hu0.esc,lay,ofDs,hs,c1,c3,hl1,hl2,hl3,hl4,c2',c2n,hRa]
        · have c2':¬ (o.rl.length:Int)≤a:=by omega
          have c2n:¬ o.rl.length≤a:=by omega
          obtain⟨y,hy⟩:∃ y,o.rl[a]? =some y:=⟨_,List.getElem?_eq_getElem (by omega)⟩
          have hia4:=hu4.iaddr (i:=(a:Int)) (k:= .i64) (by omega) (by simp;omega)
          simp only[Int.toNat_natCast]at hia4
          have hld4:∀ st,loadV 3 true st (elP 3 u4 a 0)=some (.agg (ofDs y.cells)):=fun st=> by
            rw[hu4.load (el:=y.cells) (by simp[hy]) (by omega) (by omega)]
            rfl
          have hfa0:=hu4.faddr (i:=a) (o:=0) (off:=0)
          have hfa1:=hu4.faddr (i:=a) (o:=0) (off:=1)
          have hfa2:=hu4.faddr (i:=a) (o:=0) (off:=2)
          have hl40:∀ st,loadV 1 false st (elP 3 u4 a 0)=some (.d (.i .i64 y.at')):=fun st=> by
            rw[hu4.load (el:=y.cells) (by simp[hy]) (by omega) (by omega)]
            rfl
          have hl41:∀ st,loadV 1 false st (elP 3 u4 a 1)=some (.d (.i .i64 y.kind)):=fun st=> by
            rw[hu4.load (el:=y.cells) (by simp[hy]) (by omega) (by omega)]
            rfl
          have hl42:∀ st,loadV 1 false st (elP 3 u4 a 2)=some (.d (.i .i64 y.name)):=fun st=> by
            rw[hu4.load (el:=y.cells) (by simp[hy]) (by omega) (by omega)]
            rfl
          rw[drop_cons9 hy]at hRa
          simp only at hRa
          by_cases c3:k=2
          · rw[if_pos c3]at hRa
            by_cases d1:y.at'=i
            · by_cases d2:y.kind=2
              · by_cases d3:y.name < 0
                · rw[if_pos (.inr (.inr (.inl d3)))]at hRa
                  simp[F381_b0,h,hl0,hn1,hia,hld,hu0.esc,lay,hs,c1,hl4,hl2,hl1,hl3,c2',c2n,c3,hia4,hfa0,hfa1,hfa2,hl40,hl41,hl42,RlS.cells,ofDs,d1,d2,d3,hRa]
                · by_cases d4:(o.fn.length:Int)+o.ex.length≤y.name
                  · rw[if_pos (.inr (.inr (.inr d4)))]at hRa
                    simp[F381_b0,h,hl0,hn1,hia,hld,hu0.esc,lay,hs,c1,hl4,hl2,hl1,hl3,c2',c2n,c3,hia4,hfa0,hfa1,hfa2,hl40,hl41,hl42,RlS.cells,ofDs,d1,d2,d3,hw,d4,hRa]
                  · rw[if_neg (by rintro(e | e | e | e) <;> omega)]at hRa
                    simp[F381_b0,h,hl0,hn1,hna,hia,hld,hu0.esc,lay,hs,c1,hl4,hl2,hl1,hl3,c2',c2n,c3,hia4,hfa0,hfa1,hfa2,hl40,hl41,hl42,RlS.cells,ofDs,d1,d2,d3,hw,d4]
                    exact⟨_,hlt,i+1,rfl,h,a+1,by omega,by simp,hRa⟩
              · rw[if_pos (.inr (.inl (by rw[c3];exact d2)))]at hRa
                simp[F381_b0,h,hl0,hn1,hia,hld,hu0.esc,lay,hs,c1,hl4,hl2,hl1,hl3,c2',c2n,c3,hia4,hfa0,hfa1,hfa2,hl40,hl41,hl42,RlS.cells,ofDs,d1,d2,hRa]
            · rw[if_pos (.inl d1)]at hRa
              simp[F381_b0,h,hl0,hn1,hia,hld,hu0.esc,lay,hs,c1,hl4,hl2,hl1,hl3,c2',c2n,c3,hia4,hfa0,hfa1,hfa2,hl40,hl41,hl42,RlS.cells,ofDs,d1,hRa]
          · rw[if_neg c3]at hRa
            by_cases d1:y.at'=i
            · by_cases d2:y.kind=k
              · by_cases d3:y.name < 0
                · rw[if_pos (.inr (.inr (.inl d3)))]at hRa
                  simp[F381_b0,h,hl0,hn1,hia,hld,hu0.esc,lay,hs,c1,hl4,hl2,hl1,hl3,c2',c2n,c3,hia4,hfa0,hfa1,hfa2,hl40,hl41,hl42,RlS.cells,ofDs,d1,d2,d3,hRa]
                · by_cases d4:(o.tb.length:Int)≤y.name
                  · rw[if_pos (.inr (.inr (.inr d4)))]at hRa
                    simp[F381_b0,h,hl0,hn1,hia,hld,hu0.esc,lay,hs,c1,hl4,hl2,hl1,hl3,c2',c2n,c3,hia4,hfa0,hfa1,hfa2,hl40,hl41,hl42,RlS.cells,ofDs,d1,d2,d3,d4,hRa]
                  · rw[if_neg (by rintro(e | e | e | e) <;> omega)]at hRa
                    simp[F381_b0,h,hl0,hn1,hna,hia,hld,hu0.esc,lay,hs,c1,hl4,hl2,hl1,hl3,c2',c2n,c3,hia4,hfa0,hfa1,hfa2,hl40,hl41,hl42,RlS.cells,ofDs,d1,d2,d3,d4]
                    exact⟨_,hlt,i+1,rfl,h,a+1,by omega,by simp,hRa⟩
              · rw[if_pos (.inr (.inl d2))]at hRa
                simp[F381_b0,h,hl0,hn1,hia,hld,hu0.esc,lay,hs,c1,hl4,hl2,hl1,hl3,c2',c2n,c3,hia4,hfa0,hfa1,hfa2,hl40,hl41,hl42,RlS.cells,ofDs,d1,d2,hRa]
            · rw[if_pos (.inl d1)]at hRa
              simp[F381_b0,h,hl0,hn1,hia,hld,hu0.esc,lay,hs,c1,hl4,hl2,hl1,hl3,c2',c2n,c3,hia4,hfa0,hfa1,hfa2,hl40,hl41,hl42,RlS.cells,ofDs,d1,hRa]
    · obtain rfl:i=o.tx.length:=by omega
      rw[List.drop_length,relW_n]at hRa
      simp[F381_b0,hl0,hu0.esc]
      exact⟨a,rfl,ha,by rw[hRa];simp only[List.drop_eq_nil_iff]⟩
  rcases hQ with⟨e,a,rfl,he1,he3,ha,hRR⟩ | ⟨e,rfl,he2⟩
  · by_cases c:a < o.rl.length
    · have c':(a:Int) < o.rl.length:=by omega
      rw[if_neg (by rw[List.drop_eq_nil_iff];omega)]at hRR
      simp[he1,he3,hl4,c,c',hRR]
    · have c':¬ (a:Int) < o.rl.length:=by omega
      rw[if_pos (by rw[List.drop_eq_nil_iff];omega)]at hRR
      simp[he1,he3,hl4,c,c',hRR]
  · simp[he2]
end
end Go.Sh
namespace Go.Sh
section
variable {pr:Prog}(hp:Sub ref12Fns pr){st:St}
include hp
set_option maxHeartbeats 4000000 in
theorem den_rcheck (h4:Sub ref4nFns pr)(h3:Sub ref3sFns pr)(hR:RefOk pr)(o:ObS)(ho:o.ok)(hs:∀ s∈namesO o,s.length≤9223372036854775807):den pr 371 [.agg o.vs] st=some (.tup [.d (.i .i64 (chkV o).1),.d (.i .i64 (chkV o).2)],st):=by
  refine den_shut (hp.at 0 rfl) rfl rfl (by simp[o.close];rfl) ?_
  have hmk:=fun st=> den_rmany hp (st:=st) h3 o ho
  have hck:=fun st=> den_rfuncs hp (st:=st) o ho
  have hrk:=fun st=> den_rrelocs hp (st:=st) o ho
  have hu0:=dsl_d insC o.n1 o.tx
  have hu2:=dsl_d TbS.c5 o.n3 o.tb
  have hnm:=fun st a b c=> den_rnames hp (st:=st) h4 o a b c hs
  obtain⟨u0,huv0⟩:∃ u,u=dsl Ins.cells o.n1 o.tx:=⟨_,rfl⟩
  obtain⟨u1,huv1⟩:∃ u,u=dsl FnS.cells o.n2 o.fn:=⟨_,rfl⟩
  obtain⟨u2,huv2⟩:∃ u,u=dsl TbS.cells o.n3 o.tb:=⟨_,rfl⟩
  obtain⟨u3,huv3⟩:∃ u,u=dsl txC o.n4 o.ex:=⟨_,rfl⟩
  obtain⟨u4,huv4⟩:∃ u,u=dsl RlS.cells o.n5 o.rl:=⟨_,rfl⟩
  have hl0:=hu0.len
  have hl2:=hu2.len
  rw[List.length_map]at hl0 hl2
  rw[← huv0]at hu0 hl0
  rw[← huv2]at hu2 hl2
  simp only[ObS.vs,← huv0,← huv1,← huv2,← huv3,← huv4]at hmk hck hrk hnm ⊢
  obtain⟨C,hC⟩:∃ C,C=chkV o:=⟨_,rfl⟩
  rw[← hC]
  unfold chkV at hC
  have hmb:¬ 0≤manyV o→o.fn.length≤1024∧o.tb.length≤1024∧o.ex.length≤1024:=by
    unfold manyV
    intro h
    split at h
    · omega
    · split at h
      · omega
      · split at h
        · omega
        · split at h
          · omega
          · omega
  obtain⟨mk,hmke⟩:∃ m,m=manyV o:=⟨_,rfl⟩
  obtain⟨ck,hcke⟩:∃ m,m=cutW o.tx.length 0 0 o.fn:=⟨_,rfl⟩
  obtain⟨rk,hrke⟩:∃ m,m=relW o.tb.length (o.fn.length+o.ex.length) 0 0 o.tx o.rl:=⟨_,rfl⟩
  rw[← hmke]at hmk hmb
  rw[← hcke]at hck
  rw[← hrke]at hrk
  rw[← hmke,← hcke,← hrke]at hC
  by_cases cm:0≤mk
  · rw[if_pos cm]at hC
    simp[F371,hmk,cm,hC]
  rw[if_neg cm]at hC
  have hb:=hmb cm
  have hnm:=fun st=> hnm st hb.1 hb.2.1 hb.2.2
  unfold namesV at hnm
  generalize badI okNameO (namesO o)=B at hnm hC
  cases B with
  | some i=>
    simp only at hnm hC
    simp[F371,hmk,cm,hnm,hC]
  | none=>
  simp only at hnm hC
  generalize twI (namesO o)=T at hnm hC
  cases T with
  | some i=>
    simp only at hnm hC
    simp[F371,hmk,cm,hnm,hC]
  | none=>
  simp only at hnm hC
  by_cases cc:0≤ck
  · rw[if_pos cc]at hC
    simp[F371,hmk,cm,hnm,hck,cc,hC]
  rw[if_neg cc]at hC
  simp[F371,hmk,cm,hnm,hck,cc]
  generalize hL:cden pr (.loop _ _ F371_b0) _ _=q
  obtain⟨r,rfl,hQ⟩:∃ r,q=some r∧((∃ e,r=(.exit 0,e,s0 [.row [u0,u1,u2,u3,u4]] [] 0 0)∧badI tabOkS o.tb=none∧e.get 1=some (.ptr 0 0))∨(∃ e s,∃ i:Nat,r=(.ret,e,s)∧badI tabOkS o.tb=some i∧e.get 2=some (.d (.i .i64 i))∧e.get 3=some (.d (.i .i64 125)))):=by
    rw[← hL]
    clear hL hC
    refine loop_j (fun n e s=> ∃ i,n=o.tb.length - i∧i≤o.tb.length∧e= [(1,.ptr 0 0),(8,.d (.i .i64 (i:Nat)))]∧s=s0 [.row [u0,u1,u2,u3,u4]] [] 0 0∧(∀ y∈o.tb.take i,tabOkS y=true)) ?_ (n:=o.tb.length) ⟨0,by omega,by omega,by simp,by simp,by simp⟩
    rintro n e s ⟨i,rfl,hi,rfl,rfl,hA⟩
    rcases Nat.lt_or_ge i o.tb.length with h | h
    · have hlt:o.tb.length - (i+1) < o.tb.length - i:=by omega
      obtain⟨x,hx⟩:∃ x,o.tb[i]? =some x:=⟨_,List.getElem?_eq_getElem h⟩
      have b0:=ho.tx
      have b2:=ho.tb
      have hn1:IntKind.wrap .i64 ((i:Int)+1)=i+1:=wrap_i64 (by omega) (by omega)
      have hia:=hu2.iaddr (i:=(i:Int)) (k:= .i64) (by omega) (by simp;omega)
      simp only[Int.toNat_natCast]at hia
      have hld:∀ st,loadV 5 true st (elP 5 u2 i 0)=some (.agg (ofDs x.cells)):=fun st=> by
        rw[hu2.load (el:=x.cells) (by simp[hx]) (by omega) (by omega)]
        rfl
      have hnd:=fun st=> den_rtab hp (st:=st) x
      obtain⟨b,hbe⟩:∃ b,b=tabOkS x:=⟨_,rfl⟩
      rw[← hbe]at hnd
      obtain⟨q0,q1,q2,q3,q4,hq⟩:∃ q0 q1 q2 q3 q4,ofDs x.cells= [q0,q1,q2,q3,q4]:=⟨_,_,_,_,_,rfl⟩
      rw[hq]at hld hnd
      cases b
      · have hbad:=badI_some hx hbe.symm hA
        simp[F371_b0,h,hl2,hn1,hia,hld,hnd,lay,ofDs,hu2.esc,hbad]
      · have hA':=take_allo hx hbe.symm hA
        simp[F371_b0,h,hl2,hn1,hia,hld,hnd,lay,ofDs,hu2.esc]
        exact⟨_,hlt,i+1,rfl,h,by simp,hA'⟩
    · obtain rfl:i=o.tb.length:=by omega
      rw[List.take_length]at hA
      have hbn:=badI_none.2 hA
      simp[F371_b0,hl2,hu2.esc,hbn]
  rcases hQ with⟨e,rfl,hno,he1⟩ | ⟨e,s,i,rfl,hso,he2,he3⟩
  rotate_left
  · rw[hso]at hC
    simp[he2,he3,hC]
  rw[hno]at hC
  simp only at hC
  simp[he1]
  generalize hL:cden pr (.loop _ _ F371_b1) _ _=q
  obtain⟨r,rfl,hQ⟩:∃ r,q=some r∧((∃ e,r=(.exit 2,e,s0 [.row [u0,u1,u2,u3,u4]] [] 0 0)∧badI insOkO o.tx=none∧e.get 1=some (.ptr 0 0))∨(∃ e s,∃ i:Nat,r=(.ret,e,s)∧badI insOkO o.tx=some i∧e.get 2=some (.d (.i .i64 i))∧e.get 3=some (.d (.i .i64 126)))):=by
    rw[← hL]
    clear hL hC
    refine loop_j (fun n e s=> ∃ i,n=o.tx.length - i∧i≤o.tx.length∧e= [(1,.ptr 0 0),(9,.d (.i .i64 (i:Nat)))]∧s=s0 [.row [u0,u1,u2,u3,u4]] [] 0 0∧(∀ y∈o.tx.take i,insOkO y=true)) ?_ (n:=o.tx.length) ⟨0,by omega,by omega,by simp,by simp,by simp⟩
    rintro n e s ⟨i,rfl,hi,rfl,rfl,hA⟩
    rcases Nat.lt_or_ge i o.tx.length with h | h
    · have hlt:o.tx.length - (i+1) < o.tx.length - i:=by omega
      obtain⟨x,hx⟩:∃ x,o.tx[i]? =some x:=⟨_,List.getElem?_eq_getElem h⟩
      have b0:=ho.tx
      have b2:=ho.tb
      have hn1:IntKind.wrap .i64 ((i:Int)+1)=i+1:=wrap_i64 (by omega) (by omega)
      have hia:=hu0.iaddr (i:=(i:Int)) (k:= .i64) (by omega) (by simp;omega)
      simp only[Int.toNat_natCast]at hia
      have hld:∀ st,loadV 5 true st (elP 5 u0 i 0)=some (.agg (ofDs x.cells)):=fun st=> by
        rw[hu0.load (el:=x.cells) (by simp[hx]) (by omega) (by omega)]
        rfl
      have hnd:=fun st=> den_rinsn hp (st:=st) hR x
      obtain⟨b,hbe⟩:∃ b,b=insOkO x:=⟨_,rfl⟩
      rw[← hbe]at hnd
      obtain⟨q0,q1,q2,q3,q4,hq⟩:∃ q0 q1 q2 q3 q4,ofDs x.cells= [q0,q1,q2,q3,q4]:=⟨_,_,_,_,_,rfl⟩
      rw[hq]at hld hnd
      cases b
      · have hbad:=badI_some hx hbe.symm hA
        simp[F371_b1,h,hl0,hn1,hia,hld,hnd,lay,ofDs,hu0.esc,hbad]
      · have hA':=take_allo hx hbe.symm hA
        simp[F371_b1,h,hl0,hn1,hia,hld,hnd,lay,ofDs,hu0.esc]
        exact⟨_,hlt,i+1,rfl,h,by simp,hA'⟩
    · obtain rfl:i=o.tx.length:=by omega
      rw[List.take_length]at hA
      have hbn:=badI_none.2 hA
      simp[F371_b1,hl0,hu0.esc,hbn]
  rcases hQ with⟨e,rfl,hno,he1⟩ | ⟨e,s,i,rfl,hso,he2,he3⟩
  rotate_left
  · rw[hso]at hC
    simp[he2,he3,hC]
  rw[hno]at hC
  simp only at hC
  by_cases cr:0≤rk
  · rw[if_pos cr]at hC
    simp[he1,hrk,cr,hC]
  · rw[if_neg cr]at hC
    simp[he1,hrk,cr,hC]
end
end Go.Sh
