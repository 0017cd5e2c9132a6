/- Part of the proof. -/
import Derived.Test.YtidigkielipghaaGreatDoorShLnm1
set_option linter.unusedVariables false
set_option linter.unusedSimpArgs false
namespace Go.Sh
def nameC (first:Bool)(y:Int):Bool:=decide (y=95) || (decide (97≤y) && decide (y≤122)) || (decide (65≤y) && decide (y≤90)) || (!first && ((decide (48≤y) && decide (y≤57)) || decide (y=46) || decide (y=36)))
def okFrom (i:Nat):List UInt8→Bool
  | []=> true
  | c::r=> nameC (decide (i=0)) c.toNat && okFrom (i+1) r
def okNameO (s:Byt8):Bool:=decide (s≠ []) && decide (s.length≤64) && okFrom 0 s
def tabOkS (t:TbS):Bool:=((decide (t.kind=2) && decide (1≤t.key) && decide (t.key≤64)) || (decide (t.kind=1) && decide (t.key=4))) && decide (1≤t.val) && decide (t.val≤4096) && decide (1≤t.ent) && decide (t.ent≤65536) && decide (t.ent * (t.key+(t.val+7) / 8 * 8+8)≤16777216)
def insOkO (x:Ins):Bool:=decide (mayV x=0) && (if siteI x=2 then decide (x.imm= -1) else if siteI x=1 then decide (x.imm=0) else true)
def manyV (o:ObS):Int:=if 65536 < slotsOf o.tx then 0 else if 1024 < o.fn.length then 1 else if 1024 < o.tb.length then 2 else if 1024 < o.ex.length then 3 else -1
def cutW (n:Int)(at':Int)(i:Nat):List FnS→Int
  | []=> if at' < n then i else -1
  | f::r=> if f.fi≠at'∨f.co < 1∨n - at' < f.co then i else cutW n (at'+f.co) (i+1) r
def relW (tb fx:Int)(i k:Nat):List Ins→List RlS→Int
  | [],rs=> if rs= []then -1 else k
  | x::r,rs=> if siteI x=0 then relW tb fx (i+1) k r rs else match rs with
    | []=> k
    | y::rs'=> if y.at'≠i∨y.kind≠siteI x∨y.name < 0∨(if siteI x=2 then fx else tb)≤y.name then k else relW tb fx (i+1) (k+1) r rs'
def twI (N:List Byt8):Option Nat:=(List.range N.length).find? fun i=> decide (N.getD i []∈N.take i)
def badI {α:Type}(p:α→Bool)(l:List α):Option Nat:=l.findIdx? fun x=> !p x
def chkV (o:ObS):Int×Int:=
  if 0≤manyV o then(manyV o,121) else
  match badI okNameO (namesO o) with
  | some i=> ((i:Nat),122)
  | none=> match twI (namesO o) with
    | some i=> ((i:Nat),123)
    | none=> if 0≤cutW o.tx.length 0 0 o.fn then(cutW o.tx.length 0 0 o.fn,124) else
      match badI tabOkS o.tb with
      | some i=> ((i:Nat),125)
      | none=> match badI insOkO o.tx with
        | some i=> ((i:Nat),126)
        | none=> if 0≤relW o.tb.length (o.fn.length+o.ex.length) 0 0 o.tx o.rl then(relW o.tb.length (o.fn.length+o.ex.length) 0 0 o.tx o.rl,127) else(0,0)
theorem badI_none {α:Type}{p:α→Bool}{l:List α}:badI p l=none↔∀ x∈l,p x=true:=by
  unfold badI
  rw[List.findIdx?_eq_none_iff]
  simp
theorem badI_some {α:Type}{p:α→Bool}{l:List α}{i:Nat}{x:α}(hx:l[i]? =some x)(hp:p x=false)(h:∀ y∈l.take i,p y=true):badI p l=some i:=by
  unfold badI
  obtain⟨h1,h2⟩:=List.getElem?_eq_some_iff.1 hx
  rw[List.findIdx?_eq_some_iff_getElem]
  refine⟨h1,by rw[h2,hp];rfl,fun j hj=> ?_⟩
  have:l[j]∈l.take i:=by
    rw[List.mem_take_iff_getElem]
    exact⟨j,by omega,rfl⟩
  simp[h _ this]
theorem twI_some {N:List Byt8}{i:Nat}{x:Byt8}(hx:N[i]? =some x)(hm:x∈N.take i)(h:∀ (j:Nat) y,j < i→N[j]? =some y→y∉N.take j):twI N=some i:=by
  have h1:=(List.getElem?_eq_some_iff.1 hx).1
  unfold twI
  rw[List.find?_range_eq_some]
  refine⟨by simpa[List.getD_eq_getElem?_getD,hx]using hm,by simpa using h1,fun j hj=> ?_⟩
  have hj':N[j]? =some N[j]:=List.getElem?_eq_getElem (by omega)
  have:=h j _ hj hj'
  simpa[List.getD_eq_getElem?_getD,hj']using this
theorem twI_none {N:List Byt8}(h:∀ (j:Nat) y,N[j]? =some y→y∉N.take j):twI N=none:=by
  unfold twI
  rw[List.find?_range_eq_none]
  intro j hj
  have hj':N[j]? =some N[j]:=List.getElem?_eq_getElem hj
  have:=h j _ hj'
  simpa[List.getD_eq_getElem?_getD,hj']using this
theorem andNot7o (m:Nat)(h:m < 2 ^ 62):bitI .andNot .i64 (m:Int) 7=some (.i .i64 ((m / 8 * 8:Nat):Int)):=by
  have e1:∀ j < 64,(18446744073709551608:Nat).testBit j=decide (3≤j):=by decide
  have e2:m &&& 18446744073709551608=m / 8 * 8:=by
    refine Nat.eq_of_testBit_eq fun j=> ?_
    have e3:m / 8 * 8=(m >>> 3) <<< 3:=by rw[Nat.shiftLeft_eq,Nat.shiftRight_eq_div_pow]
    rw[e3,Nat.testBit_and,Nat.testBit_shiftLeft,Nat.testBit_shiftRight]
    rcases Nat.lt_or_ge j 64 with hj | hj
    · rw[e1 j hj]
      by_cases h3:3≤j
      · rw[show 3+(j - 3)=j by omega]
        simp[h3]
      · simp[h3]
    · have hm:m.testBit j=false:=Nat.testBit_lt_two_pow (Nat.lt_of_lt_of_le h (Nat.pow_le_pow_right (by decide) (by omega)))
      rw[hm,show 3+(j - 3)=j by omega,hm]
      simp
  unfold bitI
  simp only
  have e4:(BitVec.ofInt (IntKind.bits .i64) (m:Int) &&& ~~~BitVec.ofInt (IntKind.bits .i64) 7).toNat=m / 8 * 8:=by
    rw[BitVec.toNat_and]
    have e5:(~~~BitVec.ofInt (IntKind.bits .i64) 7).toNat=18446744073709551608:=by decide
    have e6:(BitVec.ofInt (IntKind.bits .i64) (m:Int)).toNat=m:=by
      rw[ofInt_nat,BitVec.toNat_ofNat]
      exact Nat.mod_eq_of_lt (Nat.lt_trans h (by decide))
    rw[e5,e6,e2]
  rw[e4,wrap_i64 (by omega) (by omega)]
end Go.Sh
set_option linter.unusedSectionVars false
namespace Go.Sh
section
variable {pr:Prog}(hp:Sub objFns pr){st:St}
include hp
theorem den_tabX (t:TbS):den pr 341 [.agg (ofDs t.cells)] st=some (.d (.b (tabOkS t)),st):=by
  refine den_shut (hp.at 5 rfl) rfl rfl (by simp;rfl) ?_
  obtain⟨nm,kind,key,val,ent⟩:=t
  have main:1≤key→key≤64→((kind=2)∨(kind=1∧key=4))→∀ sh:Bool,sh=true→finish F341 st0 (cden pr F341.body (initE 0 [.agg (ofDs (TbS.cells ⟨nm,kind,key,val,ent⟩))]) (start F341 st0))=some (.d (.b (decide (1≤val) && decide (val≤4096) && decide (1≤ent) && decide (ent≤65536) && decide (ent * (key+(val+7) / 8 * 8+8)≤16777216))),st0):=by
    intro k1 k2 hk sh _
    by_cases h4:val < 1
    · have h4':¬ 1≤val:=by omega
      rcases hk with rfl | ⟨rfl,rfl⟩ <;> simp[F341,TbS.cells,ofDs,k1,k2,h4,h4']
    have h4':1≤val:=by omega
    by_cases h5:4096 < val
    · have h5':¬ val≤4096:=by omega
      rcases hk with rfl | ⟨rfl,rfl⟩ <;> simp[F341,TbS.cells,ofDs,k1,k2,h4,h5,h5']
    have h5':val≤4096:=by omega
    by_cases h6:ent < 1
    · have h6':¬ 1≤ent:=by omega
      rcases hk with rfl | ⟨rfl,rfl⟩ <;> simp[F341,TbS.cells,ofDs,k1,k2,h4,h5,h6,h6']
    have h6':1≤ent:=by omega
    by_cases h7:65536 < ent
    · have h7':¬ ent≤65536:=by omega
      rcases hk with rfl | ⟨rfl,rfl⟩ <;> simp[F341,TbS.cells,ofDs,k1,k2,h4,h5,h6,h7,h7']
    have h7':ent≤65536:=by omega
    obtain⟨v,rfl⟩:∃ v:Nat,val=v:=⟨val.toNat,by omega⟩
    obtain⟨m,hm⟩:∃ m:Int,m=ent * (key+((v:Int)+7) / 8 * 8+8):=⟨_,rfl⟩
    have han:=andNot7o (v+7) (by omega)
    have e7:((v+7:Nat):Int)=(v:Int)+7:=by omega
    rw[e7]at han
    have w0:IntKind.wrap .i64 ((v:Int)+7)=(v:Int)+7:=wrap_i64 (by omega) (by omega)
    have e8:(((v+7) / 8 * 8:Nat):Int)=((v:Int)+7) / 8 * 8:=by omega
    have w1:IntKind.wrap .i64 (key+((v:Int)+7) / 8 * 8)=key+((v:Int)+7) / 8 * 8:=wrap_i64 (by omega) (by omega)
    have w2:IntKind.wrap .i64 (key+((v:Int)+7) / 8 * 8+8)=key+((v:Int)+7) / 8 * 8+8:=wrap_i64 (by omega) (by omega)
    have hb:0≤ent * (key+((v:Int)+7) / 8 * 8+8)∧ent * (key+((v:Int)+7) / 8 * 8+8)≤65536 * 8192:=by
      constructor
      · exact Int.mul_nonneg (by omega) (by omega)
      · exact Int.mul_le_mul h7' (by omega) (by omega) (by omega)
    have w3:IntKind.wrap .i64 (ent * (key+((v:Int)+7) / 8 * 8+8))=ent * (key+((v:Int)+7) / 8 * 8+8):=wrap_i64 (by omega) (by omega)
    rw[e8]at han
    have v1:¬ (v:Int) < 1:=by omega
    have v1':¬ v < 1:=by omega
    rcases hk with rfl | ⟨rfl,rfl⟩ <;> simp[F341,TbS.cells,ofDs,k1,k2,h4',h5',h5,h6,h6',h7,h7',han,w0,w1,w2,w3,v1,v1']
  by_cases h1:kind=2
  · by_cases h2:1≤key
    · by_cases h3:key≤64
      · rw[main h2 h3 (.inl h1) true rfl]
        simp[tabOkS,h1,h2,h3]
      · simp[F341,TbS.cells,ofDs,h1,h2,h3,tabOkS]
    · simp[F341,TbS.cells,ofDs,h1,h2,tabOkS]
  · by_cases h2:kind=1
    · by_cases h3:key=4
      · rw[main (by omega) (by omega) (.inr ⟨h2,h3⟩) true rfl]
        simp[tabOkS,h1,h2,h3]
      · simp[F341,TbS.cells,ofDs,h1,h2,h3,tabOkS]
    · simp[F341,TbS.cells,ofDs,h1,h2,tabOkS]
theorem den_insnX (hI:IsaOk pr)(x:Ins):den pr 342 [.agg (ofDs x.cells)] st=some (.d (.b (insOkO x)),st):=by
  refine den_shut (hp.at 6 rfl) rfl rfl (by simp;rfl) ?_
  have hm:=fun st=> den_may hI (st:=st) x
  have hs:=fun st=> den_site hp (st:=st) x
  unfold insOkO
  obtain⟨m,hmm⟩:∃ m,m=mayV x:=⟨_,rfl⟩
  obtain⟨k,hkk⟩:∃ k,k=siteI x:=⟨_,rfl⟩
  rw[← hmm]at hm ⊢
  rw[← hkk]at hs ⊢
  clear hmm hkk
  obtain⟨op,dst,src,off,imm⟩:=x
  simp only[Ins.cells,ofDs,List.map_cons,List.map_nil]at hm hs ⊢
  by_cases h1:m=0
  · by_cases h2:k=2
    · by_cases h4:imm= -1
      · subst h4
        simp[F342,hm,hs,h1,h2]
      · simp[F342,hm,hs,h1,h2,h4]
    · by_cases h3:k=1
      · by_cases h4:imm=0
        · subst h4
          simp[F342,hm,hs,h1,h2,h3]
        · simp[F342,hm,hs,h1,h2,h3,h4]
      · simp[F342,hm,hs,h1,h2,h3]
  · simp[F342,hm,hs,h1]
theorem den_manyX (hq:Sub slFns pr)(o:ObS)(ho:o.ok):den pr 337 [.agg o.vs] st=some (.d (.i .i64 (manyV o)),st):=by
  have hsl:=fun st=> den_slots0 hq (st:=st) (dsl_c insC o.n1 o.tx) (by have:=ho.tx;omega)
  refine den_shut (hp.at 1 rfl) rfl rfl (by simp[o.close];rfl) ?_
  unfold manyV
  by_cases h1:65536 < slotsOf o.tx
  · have h1':(65536:Int) < slotsOf o.tx:=by omega
    simp[F337,ObS.vs,hsl,h1,h1']
  · have h1':¬ (65536:Int) < slotsOf o.tx:=by omega
    by_cases h2:1024 < o.fn.length
    · have h2':(1024:Int) < o.fn.length:=by omega
      simp[F337,ObS.vs,hsl,h1,h1',h2,h2']
    · have h2':¬ (1024:Int) < o.fn.length:=by omega
      by_cases h3:1024 < o.tb.length
      · have h3':(1024:Int) < o.tb.length:=by omega
        simp[F337,ObS.vs,hsl,h1,h1',h2,h2',h3,h3']
      · have h3':¬ (1024:Int) < o.tb.length:=by omega
        by_cases h4:1024 < o.ex.length
        · have h4':(1024:Int) < o.ex.length:=by omega
          simp[F337,ObS.vs,hsl,h1,h1',h2,h2',h3,h3',h4,h4']
        · have h4':¬ (1024:Int) < o.ex.length:=by omega
          simp[F337,ObS.vs,hsl,h1,h1',h2,h2',h3,h3',h4,h4']
set_option maxHeartbeats 4000000 in
theorem named_step {s:Byt8}{i:Nat}{c:UInt8}(hc:s[i]? =some c)(hs:s.length≤64):∃ r,cden pr F339_b0 [(0,.d (.s s)),(14,.d (.i .i64 s.length)),(15,.d (.i .i64 i))] (s0 [] [] 0 0)=some r∧
    ((nameC (decide (i=0)) c.toNat=true∧∃ e,r=(.normal,e,s0 [] [] 0 0)∧mask [0,14,15] e= [(0,.d (.s s)),(14,.d (.i .i64 s.length)),(15,.d (.i .i64 ((i:Int)+1)))])∨(nameC (decide (i=0)) c.toNat=false∧∃ e,r=(.ret,e,s0 [] [] 0 0)∧e.get 2=some (.d (.b false)))):=by
  have h:=(List.getElem?_eq_some_iff.1 hc).1
  have hn1:IntKind.wrap .i64 ((i:Int)+1)=i+1:=wrap_i64 (by omega) (by omega)
  have hix:idxSV (.d (.s s)) (.d (.i .i64 (i:Int)))=some (.d (.i .u8 c.toNat)):=by
    simp[idxSV,intV,hc]
  obtain⟨y,hy⟩:∃ y:Int,y=((c.toNat:Nat):Int):=⟨_,rfl⟩
  rw[← hy]at hix ⊢
  clear hy
  by_cases c1:y=95
  · simp[F339_b0,h,hn1,hix,c1,nameC]
  · by_cases c2:97≤y∧y≤122
    · obtain⟨c2,c3⟩:=c2
      simp[F339_b0,h,hn1,hix,c1,c2,c3,nameC]
    · by_cases c4:65≤y∧y≤90
      · obtain⟨c4,c5⟩:=c4
        have c6:¬ 97≤y:=by omega
        simp[F339_b0,h,hn1,hix,c1,c4,c5,c6,nameC]
      · have c7:(¬ 97≤y)∨(97≤y∧¬ y≤122):=by omega
        have c8:(¬ 65≤y)∨(65≤y∧¬ y≤90):=by omega
        by_cases z0:i=0
        · subst z0
          have hw1:IntKind.wrap .i64 1=1:=by decide
          have hix0:idxSV (.d (.s s)) (.d (.i .i64 0))=some (.d (.i .u8 y)):=by simpa using hix
          rcases c7 with c7 | ⟨c7,c7'⟩ <;> rcases c8 with c8 | ⟨c8,c8'⟩ <;> simp[F339_b0,h,hw1,hix0,nameC, *]
        · have z0':¬ (i:Int)=0:=by omega
          by_cases d1:48≤y
          · by_cases d2:y≤57
            · rcases c7 with c7 | ⟨c7,c7'⟩ <;> rcases c8 with c8 | ⟨c8,c8'⟩ <;> simp[F339_b0,h,hn1,hix,z0,z0',c1,c7,c8,d1,d2,nameC, *]
            · rcases c7 with c7 | ⟨c7,c7'⟩ <;> rcases c8 with c8 | ⟨c8,c8'⟩ <;> by_cases d3:y=46 <;> by_cases d4:y=36 <;> simp[F339_b0,h,hn1,hix,z0,z0',c1,c7,c8,d1,d2,d3,d4,nameC, *]
          · rcases c7 with c7 | ⟨c7,c7'⟩ <;> rcases c8 with c8 | ⟨c8,c8'⟩ <;> by_cases d3:y=46 <;> by_cases d4:y=36 <;> simp[F339_b0,h,hn1,hix,z0,z0',c1,c7,c8,d1,d3,d4,nameC, *]
end
end Go.Sh
namespace Go.Sh
theorem drop_cons9 {α:Type}{l:List α}{i:Nat}{x:α}(h:l[i]? =some x):l.drop i=x::l.drop (i+1):=by
  rw[List.drop_eq_getElem_cons (List.getElem?_eq_some_iff.1 h).1,(List.getElem?_eq_some_iff.1 h).2]
section
variable {pr:Prog}(hp:Sub objFns pr){st:St}
include hp
theorem den_namedX (s:Byt8)(hs:s.length≤9223372036854775807):den pr 339 [.d (.s s)] st=some (.d (.b (okNameO s)),st):=by
  refine den_shut (hp.at 3 rfl) rfl rfl (by simp;rfl) ?_
  unfold okNameO
  by_cases h0:s= []
  · subst h0
    simp[F339]
  · have h0':(s== [])=false:=by simpa using h0
    by_cases h1:64 < s.length
    · have h1':(64:Int) < s.length:=by omega
      have h1b:¬ s.length≤64:=by omega
      simp[F339,h0,h0',h1,h1',h1b]
    · have h1':¬ (64:Int) < s.length:=by omega
      have h1b:s.length≤64:=by omega
      simp[F339,h0,h0',h1,h1',h1b]
      generalize hL:cden pr (.loop _ _ _) _ _=o
      obtain⟨r,rfl,hQ⟩:∃ r,o=some r∧((okFrom 0 s=true∧∃ e,r=(.exit 0,e,s0 [] [] 0 0))∨(okFrom 0 s=false∧∃ e,r=(.ret,e,s0 [] [] 0 0)∧e.get 2=some (.d (.b false)))):=by
        rw[← hL]
        clear hL
        refine loop_j (fun n e t=> ∃ i:Nat,n=s.length - i∧i≤s.length∧e= [(0,.d (.s s)),(14,.d (.i .i64 s.length)),(15,.d (.i .i64 (i:Nat)))]∧t=s0 [] [] 0 0∧okFrom 0 s=okFrom i (s.drop i)) ?_ (n:=s.length) ⟨0,by omega,by omega,by simp,by simp,by simp⟩
        rintro n e t ⟨i,rfl,hi,rfl,rfl,hok⟩
        rcases Nat.lt_or_ge i s.length with h | h
        · obtain⟨c,hc⟩:∃ c,s[i]? =some c:=⟨_,List.getElem?_eq_getElem h⟩
          rw[drop_cons9 hc,okFrom]at hok
          obtain⟨r,q1,⟨q2,e,rfl,q3⟩ | ⟨q2,e,rfl,q3⟩⟩:=named_step hp hc h1b
          · rw[enter_false,q1]
            simp only[Option.map_some,cutR_false,JStep_normal]
            refine⟨s.length - (i+1),by omega,i+1,rfl,h,by rw[q3];simp,by trivial,by rw[hok,q2];simp⟩
          · rw[enter_false,q1]
            simp only[Option.map_some,cutR_false,JStep_ret]
            exact .inr ⟨by rw[hok,q2];rfl,e,rfl,q3⟩
        · obtain rfl:i=s.length:=by omega
          rw[List.drop_length]at hok
          have:okFrom 0 s=true:=by rw[hok];rfl
          simp[F339_b0,this]
      rcases hQ with⟨h5,e,rfl⟩ | ⟨h5,e,rfl,h2⟩
      · simp[h5]
      · simp[h2,h5]
theorem den_cutX (o:ObS)(ho:o.ok):den pr 340 [.agg o.vs] st=some (.d (.i .i64 (cutW o.tx.length 0 0 o.fn)),st):=by
  refine den_shut (hp.at 4 rfl) rfl rfl (by simp[o.close];rfl) ?_
  have hu1:=dsl_d FnS.c4 o.n2 o.fn
  have hu0:=dsl_d insC o.n1 o.tx
  have b0:=ho.tx
  have b1:=ho.fn
  obtain⟨u0,huv0⟩:∃ u,u=dsl Ins.cells o.n1 o.tx:=⟨_,rfl⟩
  obtain⟨u1,huv1⟩:∃ u,u=dsl FnS.cells o.n2 o.fn:=⟨_,rfl⟩
  obtain⟨u2,huv2⟩:∃ u,u=dsl TbS.cells o.n3 o.tb:=⟨_,rfl⟩
  obtain⟨u3,huv3⟩:∃ u,u=dsl txC o.n4 o.ex:=⟨_,rfl⟩
  obtain⟨u4,hu4⟩:∃ u,u=dsl RlS.cells o.n5 o.rl:=⟨_,rfl⟩
  have hl0:=hu0.len
  have hl1:=hu1.len
  rw[List.length_map]at hl1 hl0
  rw[← huv0]at hu0 hl0
  rw[← huv1]at hu1 hl1
  simp[F340,ObS.vs,← huv0,← huv1,← huv2,← huv3,← hu4,hl1]
  obtain⟨R,hR⟩:∃ R,R=cutW o.tx.length 0 0 o.fn:=⟨_,rfl⟩
  rw[← hR]
  generalize hL:cden pr (.loop _ _ F340_b0) _ _=q
  obtain⟨r,rfl,hQ⟩:∃ r,q=some r∧((∃ e a,r=(.exit 0,e,s0 [.row [u0,u1,u2,u3,u4]] [] 0 0)∧e.get 1=some (.ptr 0 0)∧e.get 3=some (.d (.i .i64 a))∧R=if a < (o.tx.length:Int) then(o.fn.length:Int) else -1)∨(∃ e,r=(.ret,e,s0 [.row [u0,u1,u2,u3,u4]] [] 0 0)∧e.get 2=some (.d (.i .i64 R)))):=by
    rw[← hL]
    clear hL
    refine loop_j (fun n e s=> ∃ (i:Nat) (a:Int),n=o.fn.length - i∧i≤o.fn.length∧e= [(1,.ptr 0 0),(3,.d (.i .i64 a)),(7,u1),(8,.d (.i .i64 o.fn.length)),(9,.d (.i .i64 (i:Nat)))]∧s=s0 [.row [u0,u1,u2,u3,u4]] [] 0 0∧R=cutW o.tx.length a i (o.fn.drop i)∧0≤a∧a≤o.tx.length) ?_ (n:=o.fn.length) ⟨0,0,by omega,by omega,by simp,by simp,by rw[hR];simp,by omega,by omega⟩
    rintro n e s ⟨i,a,rfl,hi,rfl,rfl,hRa,ha0,ha1⟩
    rcases Nat.lt_or_ge i o.fn.length with h | h
    · obtain⟨x,hx⟩:∃ x,o.fn[i]? =some x:=⟨_,List.getElem?_eq_getElem h⟩
      have hn1:IntKind.wrap .i64 ((i:Int)+1)=i+1:=wrap_i64 (by omega) (by omega)
      have hia:=hu1.iaddr (i:=(i:Int)) (k:= .i64) (by omega) (by simp;omega)
      simp only[Int.toNat_natCast]at hia
      have hld:∀ st,loadV 4 true st (elP 4 u1 i 0)=some (.agg (ofDs x.cells)):=fun st=> by
        rw[hu1.load (el:=x.cells) (by simp[hx]) (by omega) (by omega)]
        rfl
      have hw:IntKind.wrap .i64 ((o.tx.length:Int) - a)=o.tx.length - a:=wrap_i64 (by omega) (by omega)
      have hlt:o.fn.length - (i+1) < o.fn.length - i:=by omega
      rw[drop_cons9 hx,cutW]at hRa
      by_cases c1:x.fi=a
      · by_cases c2:x.co < 1
        · rw[if_pos (.inr (.inl c2))]at hRa
          simp[F340_b0,h,hn1,hia,hld,hu1.esc,FnS.cells,ofDs,lay,c1,c2,hRa]
        · by_cases c3:(o.tx.length:Int) - a < x.co
          · rw[if_pos (.inr (.inr c3))]at hRa
            simp[F340_b0,h,hn1,hia,hld,hu1.esc,FnS.cells,ofDs,lay,c1,c2,hl0,hw,c3,hRa]
          · rw[if_neg (by rintro(e | e | e) <;> omega)]at hRa
            have hw2:IntKind.wrap .i64 (a+x.co)=a+x.co:=wrap_i64 (by omega) (by omega)
            simp[F340_b0,h,hn1,hia,hld,hu1.esc,FnS.cells,ofDs,lay,c1,c2,hl0,hw,c3,hw2]
            exact⟨_,hlt,i+1,rfl,h,a+x.co,⟨rfl,rfl⟩,hRa,by omega,by omega⟩
      · rw[if_pos (.inl c1)]at hRa
        simp[F340_b0,h,hn1,hia,hld,hu1.esc,FnS.cells,ofDs,lay,c1,hRa]
    · obtain rfl:i=o.fn.length:=by omega
      rw[List.drop_length,cutW]at hRa
      simp[F340_b0,hu1.esc,hRa]
  rcases hQ with⟨e,a,rfl,he1,he3,hRR⟩ | ⟨e,rfl,he2⟩
  · by_cases c:a < (o.tx.length:Int)
    · simp[he1,he3,hl0,hl1,c,hRR]
    · simp[he1,he3,hl0,hl1,c,hRR]
  · simp[he2]
end
end Go.Sh
namespace Go.Sh
theorem siteI_012 (x:Ins):siteI x=0∨siteI x=1∨siteI x=2:=by
  unfold siteI
  split
  · exact .inr (.inr rfl)
  · split
    · exact .inr (.inl rfl)
    · exact .inl rfl
theorem relW_c (tb fx:Int)(i k:Nat)(x:Ins)(r:List Ins)(rs:List RlS):relW tb fx i k (x::r) rs=if siteI x=0 then relW tb fx (i+1) k r rs else match rs with
    | []=> (k:Int)
    | y::rs'=> if y.at'≠i∨y.kind≠siteI x∨y.name < 0∨(if siteI x=2 then fx else tb)≤y.name then(k:Int) else relW tb fx (i+1) (k+1) r rs':=by
  cases rs <;> rw[relW]
theorem relW_n (tb fx:Int)(i k:Nat)(rs:List RlS):relW tb fx i k [] rs=if rs= []then -1 else(k:Int):=by
  cases rs <;> rw[relW]
section
variable {pr:Prog}(hp:Sub objFns pr){st:St}
include hp
theorem den_relocsX (o:ObS)(ho:o.ok):den pr 343 [.agg o.vs] st=some (.d (.i .i64 (relW o.tb.length (o.fn.length+o.ex.length) 0 0 o.tx o.rl)),st):=by
  refine den_shut (hp.at 7 rfl) rfl rfl (by simp[o.close];rfl) ?_
  have hu1:=dsl_d FnS.c4 o.n2 o.fn
  have hu0:=dsl_d insC o.n1 o.tx
  have hu2:=dsl_d TbS.c5 o.n3 o.tb
  have hu3:=dsl_d txC1 o.n4 o.ex
  have hu4:=dsl_d RlS.c3 o.n5 o.rl
  obtain⟨u0,huv0⟩:∃ u,u=dsl Ins.cells o.n1 o.tx:=⟨_,rfl⟩
  obtain⟨u1,huv1⟩:∃ u,u=dsl FnS.cells o.n2 o.fn:=⟨_,rfl⟩
  obtain⟨u2,huv2⟩:∃ u,u=dsl TbS.cells o.n3 o.tb:=⟨_,rfl⟩
  obtain⟨u3,huv3⟩:∃ u,u=dsl txC o.n4 o.ex:=⟨_,rfl⟩
  obtain⟨u4,huv4⟩:∃ u,u=dsl RlS.cells o.n5 o.rl:=⟨_,rfl⟩
  have hl0:=hu0.len
  have hl1:=hu1.len
  have hl2:=hu2.len
  have hl3:=hu3.len
  have hl4:=hu4.len
  rw[List.length_map]at hl0 hl1 hl2 hl3 hl4
  rw[← huv0]at hu0 hl0
  rw[← huv1]at hu1 hl1
  rw[← huv2]at hu2 hl2
  rw[← huv3]at hu3 hl3
  rw[← huv4]at hu4 hl4
  have b0:=ho.tx
  have b1:=ho.fn
  have b3:=ho.ex
  have b4:=ho.rl
  simp[F343,ObS.vs,← huv0,← huv1,← huv2,← huv3,← huv4,hl0]
  obtain⟨R,hR⟩:∃ R,R=relW o.tb.length (o.fn.length+o.ex.length) 0 0 o.tx o.rl:=⟨_,rfl⟩
  rw[← hR]
  generalize hL:cden pr (.loop _ _ F343_b0) _ _=q
  obtain⟨r,rfl,hQ⟩:∃ r,q=some r∧((∃ e,∃ a:Nat,r=(.exit 0,e,s0 [.row [u0,u1,u2,u3,u4]] [] 0 0)∧e.get 1=some (.ptr 0 0)∧e.get 3=some (.d (.i .i64 (a:Nat)))∧a≤o.rl.length∧R=if o.rl.drop a= []then -1 else(a:Int))∨(∃ e,r=(.ret,e,s0 [.row [u0,u1,u2,u3,u4]] [] 0 0)∧e.get 2=some (.d (.i .i64 R)))):=by
    rw[← hL]
    clear hL
    refine loop_j (fun n e s=> ∃ i a:Nat,n=o.tx.length - i∧i≤o.tx.length∧a≤o.rl.length∧e= [(1,.ptr 0 0),(3,.d (.i .i64 a)),(10,u0),(11,.d (.i .i64 o.tx.length)),(12,.d (.i .i64 (i:Nat)))]∧s=s0 [.row [u0,u1,u2,u3,u4]] [] 0 0∧R=relW o.tb.length (o.fn.length+o.ex.length) i a (o.tx.drop i) (o.rl.drop a)) ?_ (n:=o.tx.length) ⟨0,0,by omega,by omega,by omega,by simp,by simp,by rw[hR];simp⟩
    rintro n e s ⟨i,a,rfl,hi,ha,rfl,rfl,hRa⟩
    rcases Nat.lt_or_ge i o.tx.length with h | h
    · obtain⟨x,hx⟩:∃ x,o.tx[i]? =some x:=⟨_,List.getElem?_eq_getElem h⟩
      have hn1:IntKind.wrap .i64 ((i:Int)+1)=i+1:=wrap_i64 (by omega) (by omega)
      have hna:IntKind.wrap .i64 ((a:Int)+1)=a+1:=wrap_i64 (by omega) (by omega)
      have hia:=hu0.iaddr (i:=(i:Int)) (k:= .i64) (by omega) (by simp;omega)
      simp only[Int.toNat_natCast]at hia
      have hld:∀ st,loadV 5 true st (elP 5 u0 i 0)=some (.agg (ofDs x.cells)):=fun st=> by
        rw[hu0.load (el:=x.cells) (by simp[hx]) (by omega) (by omega)]
        rfl
      have hs:=fun st=> den_site hp (st:=st) x
      have hk3:=siteI_012 x
      rw[drop_cons9 hx,relW_c]at hRa
      obtain⟨k,hkk⟩:∃ k,k=siteI x:=⟨_,rfl⟩
      rw[← hkk]at hs hRa hk3
      clear hkk
      have hlt:o.tx.length - (i+1) < o.tx.length - i:=by omega
      obtain⟨c0,hc0⟩:∃ c,ofDs x.cells=c∧c.length=5:=⟨_,rfl,rfl⟩
      obtain⟨q0,q1,q2,q3,q4,rfl⟩:∃ q0 q1 q2 q3 q4,c0= [q0,q1,q2,q3,q4]:=by
        match c0,hc0.2 with
        | [a,b,c,d,e],_=> exact⟨a,b,c,d,e,rfl⟩
      rw[hc0.1]at hld hs
      have hw:IntKind.wrap .i64 ((o.fn.length:Int)+o.ex.length)=o.fn.length+o.ex.length:=wrap_i64 (by omega) (by omega)
      by_cases c1:k=0
      · rw[if_pos c1]at hRa
        simp[F343_b0,h,hn1,hia,hld,hu0.esc,lay,ofDs,hs,c1]
        exact⟨_,hlt,i+1,rfl,h,a,ha,by simp,hRa⟩
      · rw[if_neg c1]at hRa
        by_cases c2:a=o.rl.length
        · have c2':(a:Int)=o.rl.length:=by omega
          have hd:o.rl.drop a= []:=List.drop_of_length_le (by omega)
          rw[hd]at hRa
          simp only at hRa
          simp[F343_b0,h,hn1,hia,hld,hu0.esc,lay,ofDs,hs,c1,hl4,c2,hRa]
        · have c2':¬ (a:Int)=o.rl.length:=by omega
          obtain⟨y,hy⟩:∃ y,o.rl[a]? =some y:=⟨_,List.getElem?_eq_getElem (by omega)⟩
          have hia4:=hu4.iaddr (i:=(a:Int)) (k:= .i64) (by omega) (by simp;omega)
          simp only[Int.toNat_natCast]at hia4
          have hld4:∀ st,loadV 3 true st (elP 3 u4 a 0)=some (.agg (ofDs y.cells)):=fun st=> by
            rw[hu4.load (el:=y.cells) (by simp[hy]) (by omega) (by omega)]
            rfl
          rw[drop_cons9 hy]at hRa
          simp only at hRa
          by_cases c3:k=2
          · rw[if_pos c3]at hRa
            by_cases d1:y.at'=i
            · by_cases d2:y.kind=2
              · by_cases d3:y.name < 0
                · rw[if_pos (.inr (.inr (.inl d3)))]at hRa
                  simp[F343_b0,h,hn1,hia,hld,hu0.esc,lay,hs,c1,hl4,hl2,hl1,hl3,c2,c2',c3,hia4,hld4,RlS.cells,ofDs,d1,d2,d3,hRa]
                · by_cases d4:(o.fn.length:Int)+o.ex.length≤y.name
                  · rw[if_pos (.inr (.inr (.inr d4)))]at hRa
                    simp[F343_b0,h,hn1,hia,hld,hu0.esc,lay,hs,c1,hl4,hl2,hl1,hl3,c2,c2',c3,hia4,hld4,RlS.cells,ofDs,d1,d2,d3,hw,d4,hRa]
                  · rw[if_neg (by rintro(e | e | e | e) <;> omega)]at hRa
                    simp[F343_b0,h,hn1,hna,hia,hld,hu0.esc,lay,hs,c1,hl4,hl2,hl1,hl3,c2,c2',c3,hia4,hld4,RlS.cells,ofDs,d1,d2,d3,hw,d4]
                    exact⟨_,hlt,i+1,rfl,h,a+1,by omega,by simp,hRa⟩
              · rw[if_pos (.inr (.inl (by rw[c3];exact d2)))]at hRa
                simp[F343_b0,h,hn1,hia,hld,hu0.esc,lay,hs,c1,hl4,hl2,hl1,hl3,c2,c2',c3,hia4,hld4,RlS.cells,ofDs,d1,d2,hRa]
            · rw[if_pos (.inl d1)]at hRa
              simp[F343_b0,h,hn1,hia,hld,hu0.esc,lay,hs,c1,hl4,hl2,hl1,hl3,c2,c2',c3,hia4,hld4,RlS.cells,ofDs,d1,hRa]
          · rw[if_neg c3]at hRa
            by_cases d1:y.at'=i
            · by_cases d2:y.kind=k
              · by_cases d3:y.name < 0
                · rw[if_pos (.inr (.inr (.inl d3)))]at hRa
                  simp[F343_b0,h,hn1,hia,hld,hu0.esc,lay,hs,c1,hl4,hl2,hl1,hl3,c2,c2',c3,hia4,hld4,RlS.cells,ofDs,d1,d2,d3,hRa]
                · by_cases d4:(o.tb.length:Int)≤y.name
                  · rw[if_pos (.inr (.inr (.inr d4)))]at hRa
                    simp[F343_b0,h,hn1,hia,hld,hu0.esc,lay,hs,c1,hl4,hl2,hl1,hl3,c2,c2',c3,hia4,hld4,RlS.cells,ofDs,d1,d2,d3,d4,hRa]
                  · rw[if_neg (by rintro(e | e | e | e) <;> omega)]at hRa
                    simp[F343_b0,h,hn1,hna,hia,hld,hu0.esc,lay,hs,c1,hl4,hl2,hl1,hl3,c2,c2',c3,hia4,hld4,RlS.cells,ofDs,d1,d2,d3,d4]
                    exact⟨_,hlt,i+1,rfl,h,a+1,by omega,by simp,hRa⟩
              · rw[if_pos (.inr (.inl d2))]at hRa
                simp[F343_b0,h,hn1,hia,hld,hu0.esc,lay,hs,c1,hl4,hl2,hl1,hl3,c2,c2',c3,hia4,hld4,RlS.cells,ofDs,d1,d2,hRa]
            · rw[if_pos (.inl d1)]at hRa
              simp[F343_b0,h,hn1,hia,hld,hu0.esc,lay,hs,c1,hl4,hl2,hl1,hl3,c2,c2',c3,hia4,hld4,RlS.cells,ofDs,d1,hRa]
    · obtain rfl:i=o.tx.length:=by omega
      rw[List.drop_length,relW_n]at hRa
      simp[F343_b0,hu0.esc]
      exact⟨a,rfl,ha,by rw[hRa];simp only[List.drop_eq_nil_iff]⟩
  rcases hQ with⟨e,a,rfl,he1,he3,ha,hRR⟩ | ⟨e,rfl,he2⟩
  · by_cases c:a < o.rl.length
    · have c':(a:Int) < o.rl.length:=by omega
      rw[if_neg (by rw[List.drop_eq_nil_iff];omega)]at hRR
      simp[he1,he3,hl4,c,c',hRR]
    · have c':¬ (a:Int) < o.rl.length:=by omega
      rw[if_pos (by rw[List.drop_eq_nil_iff];omega)]at hRR
      simp[he1,he3,hl4,c,c',hRR]
  · simp[he2]
end
end Go.Sh
namespace Go.Sh
theorem take_allo {α:Type}{p:α→Bool}{l:List α}{i:Nat}{x:α}(hx:l[i]? =some x)(hp:p x=true)(h:∀ y∈l.take i,p y=true):∀ y∈l.take (i+1),p y=true:=by
  intro y hy
  rw[List.take_add_one,hx,Option.toList_some,List.mem_append,List.mem_singleton]at hy
  rcases hy with hy | rfl
  · exact h y hy
  · exact hp
theorem okName_len {N:List Byt8}(h:badI okNameO N=none)(s:Byt8)(hs:s∈N):s.length≤64:=by
  have:=badI_none.1 h s hs
  simp[okNameO]at this
  exact this.1.2
section
variable {pr:Prog}(hp:Sub objFns pr){st:St}
include hp
set_option maxHeartbeats 4000000 in
theorem den_checkX (hq:Sub slFns pr)(hI:IsaOk pr)(o:ObS)(ho:o.ok)(hs:∀ s∈namesO o,s.length≤9223372036854775807):den pr 330 [.agg o.vs] st=some (.tup [.d (.i .i64 (chkV o).1),.d (.i .i64 (chkV o).2)],st):=by
  refine den_shut (hp.at 0 rfl) rfl rfl (by simp[o.close];rfl) ?_
  have hmk:=fun st=> den_manyX hp (st:=st) hq o ho
  have hck:=fun st=> den_cutX hp (st:=st) o ho
  have hrk:=fun st=> den_relocsX hp (st:=st) o ho
  have hu0:=dsl_d insC o.n1 o.tx
  have hu2:=dsl_d TbS.c5 o.n3 o.tb
  have hnm:=fun st=> den_names hp (st:=st) o
  obtain⟨u0,huv0⟩:∃ u,u=dsl Ins.cells o.n1 o.tx:=⟨_,rfl⟩
  obtain⟨u1,huv1⟩:∃ u,u=dsl FnS.cells o.n2 o.fn:=⟨_,rfl⟩
  obtain⟨u2,huv2⟩:∃ u,u=dsl TbS.cells o.n3 o.tb:=⟨_,rfl⟩
  obtain⟨u3,huv3⟩:∃ u,u=dsl txC o.n4 o.ex:=⟨_,rfl⟩
  obtain⟨u4,huv4⟩:∃ u,u=dsl RlS.cells o.n5 o.rl:=⟨_,rfl⟩
  have hl0:=hu0.len
  have hl2:=hu2.len
  rw[List.length_map]at hl0 hl2
  rw[← huv0]at hu0 hl0
  rw[← huv2]at hu2 hl2
  simp only[ObS.vs,← huv0,← huv1,← huv2,← huv3,← huv4]at hmk hck hrk hnm ⊢
  obtain⟨C,hC⟩:∃ C,C=chkV o:=⟨_,rfl⟩
  rw[← hC]
  unfold chkV at hC
  have hmb:¬ 0≤manyV o→o.fn.length≤1024∧o.tb.length≤1024∧o.ex.length≤1024:=by
    unfold manyV
    intro h
    split at h
    · omega
    · split at h
      · omega
      · split at h
        · omega
        · split at h
          · omega
          · omega
  obtain⟨mk,hmke⟩:∃ m,m=manyV o:=⟨_,rfl⟩
  obtain⟨ck,hcke⟩:∃ m,m=cutW o.tx.length 0 0 o.fn:=⟨_,rfl⟩
  obtain⟨rk,hrke⟩:∃ m,m=relW o.tb.length (o.fn.length+o.ex.length) 0 0 o.tx o.rl:=⟨_,rfl⟩
  rw[← hmke]at hmk hmb
  rw[← hcke]at hck
  rw[← hrke]at hrk
  rw[← hmke,← hcke,← hrke]at hC
  by_cases cm:0≤mk
  · rw[if_pos cm]at hC
    simp[F330,hmk,cm,hC]
  rw[if_neg cm]at hC
  have hb:=hmb cm
  have hnm:=fun st=> hnm st hb.1 hb.2.1 hb.2.2
  have hu5:=dsl_d txC1 (decide (0 < (namesO o).length)) (namesO o)
  have hnl:(namesO o).length≤3072:=by simp[namesO];omega
  obtain⟨N,hN⟩:∃ N,N=namesO o:=⟨_,rfl⟩
  rw[← hN]at hnm hu5 hnl hs hC
  clear hN
  obtain⟨u5,huv5⟩:∃ u,u=dsl txC (decide (0 < N.length)) N:=⟨_,rfl⟩
  have hl5:=hu5.len
  rw[List.length_map]at hl5
  rw[← huv5]at hnm hu5 hl5
  clear huv5
  have hld5:∀ (i:Nat) (s:Byt8),N[i]? =some s→∀ st,loadV 1 false st (elP 1 u5 i 0)=some (.d (.s s)):=fun i s hx st=> by
    rw[hu5.load (el:=txC s) (by simp[hx]) (by omega) (by omega)]
    rfl
  simp[F330,hmk,cm,hnm,hl5]
  generalize hL:cden pr (.loop _ _ F330_b0) _ _=q
  obtain⟨r,rfl,hQ⟩:∃ r,q=some r∧((∃ e,r=(.exit 0,e,s0 [.row [u0,u1,u2,u3,u4]] [] 0 0)∧badI okNameO N=none∧e.get 1=some (.ptr 0 0)∧e.get 5=some u5)∨(∃ e s,∃ i:Nat,r=(.ret,e,s)∧badI okNameO N=some i∧e.get 2=some (.d (.i .i64 i))∧e.get 3=some (.d (.i .i64 122)))):=by
    rw[← hL]
    clear hL hC
    refine loop_j (fun n e s=> ∃ i,n=N.length - i∧i≤N.length∧e= [(1,.ptr 0 0),(5,u5),(26,u5),(27,.d (.i .i64 N.length)),(28,.d (.i .i64 (i:Nat)))]∧s=s0 [.row [u0,u1,u2,u3,u4]] [] 0 0∧(∀ y∈N.take i,okNameO y=true)) ?_ (n:=N.length) ⟨0,by omega,by omega,by simp,by simp,by simp⟩
    rintro n e s ⟨i,rfl,hi,rfl,rfl,hA⟩
    rcases Nat.lt_or_ge i N.length with h | h
    · have hn1:IntKind.wrap .i64 ((i:Int)+1)=i+1:=wrap_i64 (by omega) (by omega)
      have hlt:N.length - (i+1) < N.length - i:=by omega
      obtain⟨x,hx⟩:∃ x,N[i]? =some x:=⟨_,List.getElem?_eq_getElem h⟩
      have hia:=hu5.iaddr (i:=(i:Int)) (k:= .i64) (by omega) (by simp;omega)
      simp only[Int.toNat_natCast]at hia
      have hld:=hld5 i x hx
      have hnd:=fun st=> den_namedX hp (st:=st) x (hs x (List.mem_of_getElem? hx))
      obtain⟨b,hbe⟩:∃ b,b=okNameO x:=⟨_,rfl⟩
      rw[← hbe]at hnd
      cases b
      · have hbad:=badI_some hx hbe.symm hA
        simp[F330_b0,h,hn1,hia,hld,hnd,hbad]
      · have hA':=take_allo hx hbe.symm hA
        simp[F330_b0,h,hn1,hia,hld,hnd]
        exact⟨_,hlt,i+1,rfl,h,by simp,hA'⟩
    · obtain rfl:i=N.length:=by omega
      rw[List.take_length]at hA
      have hbn:=badI_none.2 hA
      simp[F330_b0,hbn]
  rcases hQ with⟨e,rfl,hno,he1,he5⟩ | ⟨e,s,i,rfl,hso,he2,he3⟩
  rotate_left
  · rw[hso]at hC
    simp[he2,he3,hC]
  rw[hno]at hC
  simp only at hC
  have hs':=okName_len hno
  simp[he1,he5,hl5]
  generalize hL:cden pr (.loop _ _ F330_b1) _ _=q
  obtain⟨r,rfl,hQ⟩:∃ r,q=some r∧((∃ e,r=(.exit 2,e,s0 [.row [u0,u1,u2,u3,u4],.map (seenE N)] [] 0 0)∧twI N=none∧e.get 1=some (.ptr 0 0))∨(∃ e s,∃ i:Nat,r=(.ret,e,s)∧twI N=some i∧e.get 2=some (.d (.i .i64 i))∧e.get 3=some (.d (.i .i64 123)))):=by
    rw[← hL]
    clear hL hC
    refine loop_j (fun n e s=> ∃ i,n=N.length - i∧i≤N.length∧e= [(1,.ptr 0 0),(8,.map 1),(39,u5),(40,.d (.i .i64 N.length)),(41,.d (.i .i64 (i:Nat)))]∧s=s0 [.row [u0,u1,u2,u3,u4],.map (seenE (N.take i))] [] 0 0∧(∀ (j:Nat) y,j < i→N[j]? =some y→y∉N.take j)) ?_ (n:=N.length) ⟨0,by omega,by omega,by simp,by simp[seenE],by simp⟩
    rintro n e s ⟨i,rfl,hi,rfl,rfl,hA⟩
    rcases Nat.lt_or_ge i N.length with h | h
    · have hn1:IntKind.wrap .i64 ((i:Int)+1)=i+1:=wrap_i64 (by omega) (by omega)
      have hlt:N.length - (i+1) < N.length - i:=by omega
      obtain⟨x,hx⟩:∃ x,N[i]? =some x:=⟨_,List.getElem?_eq_getElem h⟩
      have hia:=hu5.iaddr (i:=(i:Int)) (k:= .i64) (by omega) (by simp;omega)
      simp only[Int.toNat_natCast]at hia
      have hld:=hld5 i x hx
      have hf:=find_seen x (N.take i) 0
      rw[show(((N.take i).zipIdx 0).map fun x=> (D.s x.1,V.d (.i .i64 x.2)))=seenE (N.take i) from rfl]at hf
      by_cases hm:x∈N.take i
      · rw[if_pos hm]at hf
        have hbad:=twI_some hx hm hA
        generalize (((0+(N.take i).idxOf x:Nat)):Int)=y at hf
        simp[F330_b1,h,hn1,hia,hld,lookV,keyOk,hf,lookOut,zeroV,hbad]
      · rw[if_neg hm]at hf
        have hset:=set_seen x (.d (.i .i64 (i:Int))) (N.take i) 0 hm
        rw[show(((N.take i).zipIdx 0).map fun x=> (D.s x.1,V.d (.i .i64 x.2)))=seenE (N.take i) from rfl]at hset
        have hsn:seenE (N.take (i+1))=seenE (N.take i)++ [(.s x,.d (.i .i64 (i:Int)))]:=by
          rw[List.take_add_one,hx,Option.toList_some,seen_snoc,List.length_take,Nat.min_eq_left hi]
        have hA':∀ (j:Nat) y,j < i+1→N[j]? =some y→y∉N.take j:=by
          intro j y hj hy
          rcases Nat.lt_or_ge j i with hj' | hj'
          · exact hA j y hj' hy
          · obtain rfl:j=i:=by omega
            rw[hx]at hy
            cases hy
            exact hm
        simp[F330_b1,h,hn1,hia,hld,lookV,keyOk,hf,lookOut,zeroV,mapSetV,hset]
        exact⟨_,hlt,i+1,rfl,h,by simp,by rw[hsn],hA'⟩
    · obtain rfl:i=N.length:=by omega
      have hbn:=twI_none fun j y hy=> hA j y (List.getElem?_eq_some_iff.1 hy).1 hy
      simp[F330_b1,hbn]
  rcases hQ with⟨e,rfl,hno,he1⟩ | ⟨e,s,i,rfl,hso,he2,he3⟩
  rotate_left
  · rw[hso]at hC
    simp[he2,he3,hC]
  rw[hno]at hC
  simp only at hC
  obtain⟨M,hM⟩:∃ M,M=seenE N:=⟨_,rfl⟩
  rw[← hM]
  clear hM
  by_cases cc:0≤ck
  · rw[if_pos cc]at hC
    simp[he1,hck,cc,hC]
  rw[if_neg cc]at hC
  simp[he1,hck,cc,hl2]
  generalize hL:cden pr (.loop _ _ F330_b2) _ _=q
  obtain⟨r,rfl,hQ⟩:∃ r,q=some r∧((∃ e,r=(.exit 4,e,s0 [.row [u0,u1,u2,u3,u4],.map M] [] 0 0)∧badI tabOkS o.tb=none∧e.get 1=some (.ptr 0 0))∨(∃ e s,∃ i:Nat,r=(.ret,e,s)∧badI tabOkS o.tb=some i∧e.get 2=some (.d (.i .i64 i))∧e.get 3=some (.d (.i .i64 125)))):=by
    rw[← hL]
    clear hL hC
    refine loop_j (fun n e s=> ∃ i,n=o.tb.length - i∧i≤o.tb.length∧e= [(1,.ptr 0 0),(64,u2),(65,.d (.i .i64 o.tb.length)),(66,.d (.i .i64 (i:Nat)))]∧s=s0 [.row [u0,u1,u2,u3,u4],.map M] [] 0 0∧(∀ y∈o.tb.take i,tabOkS y=true)) ?_ (n:=o.tb.length) ⟨0,by omega,by omega,by simp,by simp,by simp⟩
    rintro n e s ⟨i,rfl,hi,rfl,rfl,hA⟩
    rcases Nat.lt_or_ge i o.tb.length with h | h
    · have hn1:IntKind.wrap .i64 ((i:Int)+1)=i+1:=wrap_i64 (by omega) (by omega)
      have hlt:o.tb.length - (i+1) < o.tb.length - i:=by omega
      obtain⟨x,hx⟩:∃ x,o.tb[i]? =some x:=⟨_,List.getElem?_eq_getElem h⟩
      have hia:=hu2.iaddr (i:=(i:Int)) (k:= .i64) (by omega) (by simp;omega)
      simp only[Int.toNat_natCast]at hia
      have hld:∀ st,loadV 5 true st (elP 5 u2 i 0)=some (.agg (ofDs x.cells)):=fun st=> by
        rw[hu2.load (el:=x.cells) (by simp[hx]) (by omega) (by omega)]
        rfl
      have hnd:=fun st=> den_tabX hp (st:=st) x
      obtain⟨b,hbe⟩:∃ b,b=tabOkS x:=⟨_,rfl⟩
      rw[← hbe]at hnd
      obtain⟨q0,q1,q2,q3,q4,hq⟩:∃ q0 q1 q2 q3 q4,ofDs x.cells= [q0,q1,q2,q3,q4]:=⟨_,_,_,_,_,rfl⟩
      rw[hq]at hld hnd
      cases b
      · have hbad:=badI_some hx hbe.symm hA
        simp[F330_b2,h,hn1,hia,hld,hnd,lay,ofDs,hu2.esc,hbad]
      · have hA':=take_allo hx hbe.symm hA
        simp[F330_b2,h,hn1,hia,hld,hnd,lay,ofDs,hu2.esc]
        exact⟨_,hlt,i+1,rfl,h,by simp,hA'⟩
    · obtain rfl:i=o.tb.length:=by omega
      rw[List.take_length]at hA
      have hbn:=badI_none.2 hA
      simp[F330_b2,hu2.esc,hbn]
  rcases hQ with⟨e,rfl,hno,he1⟩ | ⟨e,s,i,rfl,hso,he2,he3⟩
  rotate_left
  · rw[hso]at hC
    simp[he2,he3,hC]
  rw[hno]at hC
  simp only at hC
  simp[he1,hl0]
  generalize hL:cden pr (.loop _ _ F330_b3) _ _=q
  obtain⟨r,rfl,hQ⟩:∃ r,q=some r∧((∃ e,r=(.exit 6,e,s0 [.row [u0,u1,u2,u3,u4],.map M] [] 0 0)∧badI insOkO o.tx=none∧e.get 1=some (.ptr 0 0))∨(∃ e s,∃ i:Nat,r=(.ret,e,s)∧badI insOkO o.tx=some i∧e.get 2=some (.d (.i .i64 i))∧e.get 3=some (.d (.i .i64 126)))):=by
    rw[← hL]
    clear hL hC
    refine loop_j (fun n e s=> ∃ i,n=o.tx.length - i∧i≤o.tx.length∧e= [(1,.ptr 0 0),(77,u0),(78,.d (.i .i64 o.tx.length)),(79,.d (.i .i64 (i:Nat)))]∧s=s0 [.row [u0,u1,u2,u3,u4],.map M] [] 0 0∧(∀ y∈o.tx.take i,insOkO y=true)) ?_ (n:=o.tx.length) ⟨0,by omega,by omega,by simp,by simp,by simp⟩
    rintro n e s ⟨i,rfl,hi,rfl,rfl,hA⟩
    rcases Nat.lt_or_ge i o.tx.length with h | h
    · have hlt:o.tx.length - (i+1) < o.tx.length - i:=by omega
      obtain⟨x,hx⟩:∃ x,o.tx[i]? =some x:=⟨_,List.getElem?_eq_getElem h⟩
      have b0:=ho.tx
      have hn1:IntKind.wrap .i64 ((i:Int)+1)=i+1:=wrap_i64 (by omega) (by omega)
      have hia:=hu0.iaddr (i:=(i:Int)) (k:= .i64) (by omega) (by simp;omega)
      simp only[Int.toNat_natCast]at hia
      have hld:∀ st,loadV 5 true st (elP 5 u0 i 0)=some (.agg (ofDs x.cells)):=fun st=> by
        rw[hu0.load (el:=x.cells) (by simp[hx]) (by omega) (by omega)]
        rfl
      have hnd:=fun st=> den_insnX hp (st:=st) hI x
      obtain⟨b,hbe⟩:∃ b,b=insOkO x:=⟨_,rfl⟩
      rw[← hbe]at hnd
      obtain⟨q0,q1,q2,q3,q4,hq⟩:∃ q0 q1 q2 q3 q4,ofDs x.cells= [q0,q1,q2,q3,q4]:=⟨_,_,_,_,_,rfl⟩
      rw[hq]at hld hnd
      cases b
      · have hbad:=badI_some hx hbe.symm hA
        simp[F330_b3,h,hn1,hia,hld,hnd,lay,ofDs,hu0.esc,hbad]
      · have hA':=take_allo hx hbe.symm hA
        simp[F330_b3,h,hn1,hia,hld,hnd,lay,ofDs,hu0.esc]
        exact⟨_,hlt,i+1,rfl,h,by simp,hA'⟩
    · obtain rfl:i=o.tx.length:=by omega
      rw[List.take_length]at hA
      have hbn:=badI_none.2 hA
      simp[F330_b3,hu0.esc,hbn]
  rcases hQ with⟨e,rfl,hno,he1⟩ | ⟨e,s,i,rfl,hso,he2,he3⟩
  rotate_left
  · rw[hso]at hC
    simp[he2,he3,hC]
  rw[hno]at hC
  simp only at hC
  by_cases cr:0≤rk
  · rw[if_pos cr]at hC
    simp[he1,hrk,cr,hC]
  · rw[if_neg cr]at hC
    simp[he1,hrk,cr,hC]
end
end Go.Sh
