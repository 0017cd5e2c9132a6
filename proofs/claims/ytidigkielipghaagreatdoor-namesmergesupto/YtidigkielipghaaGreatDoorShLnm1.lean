/- Part of the proof. -/
import Derived.Test.YtidigkielipghaaGreatDoorShLnm
import Derived.Test.YtidigkielipghaaGreatDoorShLins
import Derived.Test.YtidigkielipghaaGreatDoorShFobject
import Derived.Test.YtidigkielipghaaGreatDoorShBb
set_option linter.unusedVariables false
set_option linter.unusedSimpArgs false
set_option linter.unusedSectionVars false
namespace Go.Sh
def FnS.cells (x:FnS):List D:= [.s x.nm,.b x.gl,.i .i64 x.fi,.i .i64 x.co]
def TbS.cells (x:TbS):List D:= [.s x.nm,.i .i64 x.kind,.i .i64 x.key,.i .i64 x.val,.i .i64 x.ent]
def RlS.cells (x:RlS):List D:= [.i .i64 x.at',.i .i64 x.kind,.i .i64 x.name]
def txC (s:Byt8):List D:= [.s s]
theorem FnS.c4 (x:FnS):x.cells.length=4:=rfl
theorem TbS.c5 (x:TbS):x.cells.length=5:=rfl
theorem RlS.c3 (x:RlS):x.cells.length=3:=rfl
theorem txC1 (x:Byt8):(txC x).length=1:=rfl
def ObS.cells (o:ObS):List D:= [.sl o.tx.length o.n1 (o.tx.map Ins.cells).flatten,.sl o.fn.length o.n2 (o.fn.map FnS.cells).flatten,.sl o.tb.length o.n3 (o.tb.map TbS.cells).flatten,.sl o.ex.length o.n4 (o.ex.map txC).flatten,.sl o.rl.length o.n5 (o.rl.map RlS.cells).flatten]
theorem ObS.c5 (x:ObS):x.cells.length=5:=rfl
def ObS.vs (o:ObS):List V:= [dsl Ins.cells o.n1 o.tx,dsl FnS.cells o.n2 o.fn,dsl TbS.cells o.n3 o.tb,dsl txC o.n4 o.ex,dsl RlS.cells o.n5 o.rl]
@[simp] theorem dsl_closeC {α:Type}(c:α→List D)(nz:Bool)(l:List α):closeC (dsl c nz l)=some (dsl c nz l):=rfl
@[simp] theorem dsl_escC {α:Type}(c:α→List D)(nz:Bool)(l:List α)(st:St)(a b:Nat):escC st a b (dsl c nz l)=some (dsl c nz l):=rfl
theorem ObS.close (o:ObS):closeCs o.vs=some o.vs:=by simp[ObS.vs]
structure ObS.ok (o:ObS):Prop where
  tx:o.tx.length * 40≤140737488355328
  fn:o.fn.length * 40≤140737488355328
  tb:o.tb.length * 48≤140737488355328
  ex:o.ex.length * 16≤140737488355328
  rl:o.rl.length * 24≤140737488355328
def objFns:List (Nat×SFn):= [(330,F330),(337,F337),(338,F338),(339,F339),(340,F340),(341,F341),(342,F342),(343,F343),(348,F348)]
def slFns:List (Nat×SFn):= [(0,F0)]
section
variable {pr:Prog}(hp:Sub slFns pr){st:St}
include hp
theorem den_slots0 {v:V}{is:List Ins}(hv:SlC 5 v (is.map Ins.cells))(hl:is.length≤4611686018427387903):den pr 0 [v] st=some (.d (.i .i64 (slotsOf is)),st):=by
  obtain⟨u,hc,hu⟩:=hv.close
  refine den_shut (hp.at 0 rfl) rfl rfl (by simp[hc];rfl) ?_
  have hlen:=hu.len
  rw[List.length_map]at hlen
  simp[F0,hlen]
  generalize hL:cden pr (.loop _ _ _) _ _=o
  obtain⟨r,rfl,hQ⟩:∃ r,o=some r∧∃ e,r=(.exit 0,e,s0 [] [] 0 0)∧e.get 3=some (.d (.i .i64 (slotsOf is))):=by
    rw[← hL]
    refine loop_n is.length (fun i=> [(3,.d (.i .i64 ((is.length:Int)+slotsOf (is.take i) - i))),(8,u),(9,.d (.i .i64 is.length)),(10,.d (.i .i64 i))]) (fun _=> s0 [] [] 0 0) ?_ (by simp[slotsOf]) (by simp)
    intro i hi
    rcases Nat.lt_or_ge i is.length with h | h
    · obtain⟨x,hx⟩:∃ x,is[i]? =some x:=⟨_,List.getElem?_eq_getElem h⟩
      have hs:=slotsOf_le (is.take i)
      rw[List.length_take]at hs
      have h1:IntKind.wrap .i64 ((i:Int)+1)=i+1:=wrap_i64 (by omega) (by omega)
      have h2:IntKind.wrap .i64 ((is.length:Int)+slotsOf (is.take i) - i+1)=is.length+slotsOf (is.take i) - i+1:=wrap_i64 (by omega) (by omega)
      have hia:=hu.iaddr (i:=(i:Int)) (k:= .i64) (by omega) (by simp;omega)
      have hld:=fun st=> hu.load (st:=st) (i:=i) (o:=0) (n:=5) (agg:=true) (el:=x.cells) (by simp[hx]) (by omega) (by omega)
      have hes:=fun st a b=> hu.esc st a b
      by_cases hop:x.op=24
      · simp[F0_b0,h,hia,hld,ins_take,Ins.cells,ofDs,lay,hop,h1,h2,take_succ' hx,slotsOf_app,slotsOf,hes]
        omega
      · simp[F0_b0,h,hia,hld,ins_take,Ins.cells,ofDs,lay,hop,h1,h2,take_succ' hx,slotsOf_app,slotsOf,hes]
        omega
    · obtain rfl:i=is.length:=by omega
      simp[F0_b0]
      omega
  obtain⟨e,rfl,h3⟩:=hQ
  simp[h3]
end
def siteI (x:Ins):Int:=if x.op=133∧x.src=1 then 2 else if x.op=24∧x.src=1 then 1 else 0
section
variable {pr:Prog}(hp:Sub objFns pr){st:St}
include hp
theorem den_site (x:Ins):den pr 348 [.agg (ofDs x.cells)] st=some (.d (.i .i64 (siteI x)),st):=by
  refine den_shut (hp.at 8 rfl) rfl rfl (by simp;rfl) ?_
  obtain⟨op,dst,src,off,imm⟩:=x
  by_cases h1:op=133
  · by_cases h3:src=1 <;> simp[F348,Ins.cells,ofDs,h1,h3,siteI]
  · by_cases h2:op=24
    · by_cases h3:src=1 <;> simp[F348,Ins.cells,ofDs,h1,h2,h3,siteI]
    · simp[F348,Ins.cells,ofDs,h1,h2,siteI]
theorem fin_tab (t:TbS):∃ b,finish F341 st0 (cden pr F341.body (initE 0 [.agg (ofDs t.cells)]) (start F341 st0))=some (.d (.b b),st0):=by
  obtain⟨nm,kind,key,val,ent⟩:=t
  obtain⟨an,han⟩:∃ an:Int→Int→Int,∀ a b,bitI .andNot .i64 a b=some (.i .i64 (an a b)):=⟨_,fun _ _=> rfl⟩
  by_cases h1:kind=2
  · by_cases h2:1≤key
    · by_cases h3:key≤64
      · by_cases h4:val < 1
        · simp[F341,TbS.cells,ofDs,han,h1,h2,h3,h4]
        · by_cases h5:4096 < val
          · simp[F341,TbS.cells,ofDs,han,h1,h2,h3,h4,h5]
          · by_cases h6:ent < 1
            · simp[F341,TbS.cells,ofDs,han,h1,h2,h3,h4,h5,h6]
            · by_cases h7:65536 < ent
              · simp[F341,TbS.cells,ofDs,han,h1,h2,h3,h4,h5,h6,h7]
              · simp[F341,TbS.cells,ofDs,han,h1,h2,h3,h4,h5,h6,h7]
      · simp[F341,TbS.cells,ofDs,han,h1,h2,h3]
    · simp[F341,TbS.cells,ofDs,han,h1,h2]
  · by_cases h2:kind=1
    · by_cases h3:key=4
      · by_cases h4:val < 1
        · simp[F341,TbS.cells,ofDs,han,h1,h2,h3,h4]
        · by_cases h5:4096 < val
          · simp[F341,TbS.cells,ofDs,han,h1,h2,h3,h4,h5]
          · by_cases h6:ent < 1
            · simp[F341,TbS.cells,ofDs,han,h1,h2,h3,h4,h5,h6]
            · by_cases h7:65536 < ent
              · simp[F341,TbS.cells,ofDs,han,h1,h2,h3,h4,h5,h6,h7]
              · simp[F341,TbS.cells,ofDs,han,h1,h2,h3,h4,h5,h6,h7]
      · simp[F341,TbS.cells,ofDs,han,h1,h2,h3]
    · simp[F341,TbS.cells,ofDs,han,h1,h2]
theorem den_tab (t:TbS):∃ b,∀ st,den pr 341 [.agg (ofDs t.cells)] st=some (.d (.b b),st):=by
  obtain⟨b,hb⟩:=fin_tab hp t
  exact⟨b,fun st=> den_shut (hp.at 5 rfl) rfl rfl (by simp) hb⟩
theorem den_insn (hI:IsaOk pr)(x:Ins):∃ b,∀ st,den pr 342 [.agg (ofDs x.cells)] st=some (.d (.b b),st):=by
  obtain⟨b,hb⟩:∃ b,finish F342 st0 (cden pr F342.body (initE 0 [.agg (ofDs x.cells)]) (start F342 st0))=some (.d (.b b),st0):=by
    have hm:=fun st=> den_may hI (st:=st) x
    have hs:=fun st=> den_site hp (st:=st) x
    obtain⟨m,hmm⟩:∃ m,m=mayV x:=⟨_,rfl⟩
    obtain⟨k,hkk⟩:∃ k,k=siteI x:=⟨_,rfl⟩
    rw[← hmm]at hm
    rw[← hkk]at hs
    obtain⟨op,dst,src,off,imm⟩:=x
    simp only[Ins.cells,ofDs,List.map_cons,List.map_nil]at hm hs ⊢
    by_cases h1:m=0
    · by_cases h2:k=2
      · simp[F342,hm,hs,h1,h2]
      · by_cases h3:k=1
        · simp[F342,hm,hs,h1,h2,h3]
        · simp[F342,hm,hs,h1,h2,h3]
    · simp[F342,hm,hs,h1]
  exact⟨b,fun st=> den_shut (hp.at 6 rfl) rfl rfl (by simp) hb⟩
end
section
variable {pr:Prog}(hp:Sub objFns pr){st:St}
include hp
theorem den_many (hq:Sub slFns pr)(o:ObS)(ho:o.ok):∃ k:Int,(∀ st,den pr 337 [.agg o.vs] st=some (.d (.i .i64 k),st))∧(k < 0→slotsOf o.tx≤65536∧o.fn.length≤1024∧o.tb.length≤1024∧o.ex.length≤1024):=by
  have hsl:=fun st=> den_slots0 hq (st:=st) (dsl_c insC o.n1 o.tx) (by have:=ho.tx;omega)
  by_cases h1:65536 < slotsOf o.tx
  · refine⟨0,fun st=> den_shut (hp.at 1 rfl) rfl rfl (by simp[o.close];rfl) ?_,fun h=> by omega⟩
    have h1':(65536:Int) < slotsOf o.tx:=by omega
    simp[F337,ObS.vs,hsl,h1,h1']
  · have h1':¬ (65536:Int) < slotsOf o.tx:=by omega
    by_cases h2:1024 < o.fn.length
    · refine⟨1,fun st=> den_shut (hp.at 1 rfl) rfl rfl (by simp[o.close];rfl) ?_,fun h=> by omega⟩
      have h2':(1024:Int) < o.fn.length:=by omega
      simp[F337,ObS.vs,hsl,h1,h1',h2,h2']
    · have h2':¬ (1024:Int) < o.fn.length:=by omega
      by_cases h3:1024 < o.tb.length
      · refine⟨2,fun st=> den_shut (hp.at 1 rfl) rfl rfl (by simp[o.close];rfl) ?_,fun h=> by omega⟩
        have h3':(1024:Int) < o.tb.length:=by omega
        simp[F337,ObS.vs,hsl,h1,h1',h2,h2',h3,h3']
      · have h3':¬ (1024:Int) < o.tb.length:=by omega
        by_cases h4:1024 < o.ex.length
        · refine⟨3,fun st=> den_shut (hp.at 1 rfl) rfl rfl (by simp[o.close];rfl) ?_,fun h=> by omega⟩
          have h4':(1024:Int) < o.ex.length:=by omega
          simp[F337,ObS.vs,hsl,h1,h1',h2,h2',h3,h3',h4,h4']
        · refine⟨-1,fun st=> den_shut (hp.at 1 rfl) rfl rfl (by simp[o.close];rfl) ?_,fun _=> by omega⟩
          have h4':¬ (1024:Int) < o.ex.length:=by omega
          simp[F337,ObS.vs,hsl,h1,h1',h2,h2',h3,h3',h4,h4']
end
section
variable {pr:Prog}(hp:Sub objFns pr){st:St}
include hp
set_option maxHeartbeats 4000000 in
theorem den_named (s:Byt8)(hs:s.length≤9223372036854775807):∃ b,∀ st,den pr 339 [.d (.s s)] st=some (.d (.b b),st):=by
  obtain⟨b,hb⟩:∃ b,finish F339 st0 (cden pr F339.body (initE 0 [.d (.s s)]) (start F339 st0))=some (.d (.b b),st0):=by
    by_cases h0:s= []
    · subst h0
      simp[F339]
    · have h0':(s== [])=false:=by simpa using h0
      by_cases h1:64 < s.length
      · have h1':(64:Int) < s.length:=by omega
        simp[F339,h0,h0',h1,h1']
      · have h1':¬ (64:Int) < s.length:=by omega
        simp[F339,h0,h0',h1,h1']
        generalize hL:cden pr (.loop _ _ _) _ _=o
        obtain⟨r,rfl,hQ⟩:∃ r,o=some r∧((∃ e,r=(.exit 0,e,s0 [] [] 0 0))∨(∃ e,r=(.ret,e,s0 [] [] 0 0)∧e.get 2=some (.d (.b false)))):=by
          rw[← hL]
          clear hL
          refine loop_n s.length (fun i=> [(0,.d (.s s)),(14,.d (.i .i64 s.length)),(15,.d (.i .i64 i))]) (fun _=> s0 [] [] 0 0) ?_ (by simp) (by simp)
          intro i hi
          rcases Nat.lt_or_ge i s.length with h | h
          · obtain⟨c,hc⟩:∃ c,s[i]? =some c:=⟨_,List.getElem?_eq_getElem h⟩
            have hn1:IntKind.wrap .i64 ((i:Int)+1)=i+1:=wrap_i64 (by omega) (by omega)
            have hix:idxSV (.d (.s s)) (.d (.i .i64 (i:Int)))=some (.d (.i .u8 c.toNat)):=by
              simp[idxSV,intV,hc]
            obtain⟨y,hy⟩:∃ y:Int,y=((c.toNat:Nat):Int):=⟨_,rfl⟩
            rw[← hy]at hix
            clear hy
            by_cases c1:y=95
            · simp[F339_b0,h,hn1,hix,c1]
            · by_cases c2:97≤y∧y≤122
              · obtain⟨c2,c3⟩:=c2
                simp[F339_b0,h,hn1,hix,c1,c2,c3]
              · by_cases c4:65≤y∧y≤90
                · obtain⟨c4,c5⟩:=c4
                  have c6:¬ 97≤y:=by omega
                  simp[F339_b0,h,hn1,hix,c1,c4,c5,c6]
                · have c7:(¬ 97≤y)∨(97≤y∧¬ y≤122):=by omega
                  have c8:(¬ 65≤y)∨(65≤y∧¬ y≤90):=by omega
                  by_cases z0:i=0
                  · subst z0
                    have hw1:IntKind.wrap .i64 1=1:=by decide
                    have hix0:idxSV (.d (.s s)) (.d (.i .i64 0))=some (.d (.i .u8 y)):=by simpa using hix
                    rcases c7 with c7 | ⟨c7,c7'⟩ <;> rcases c8 with c8 | ⟨c8,c8'⟩ <;> simp[F339_b0,h,hw1,hix0, *]
                  · have z0':¬ (i:Int)=0:=by omega
                    by_cases d1:48≤y
                    · by_cases d2:y≤57
                      · rcases c7 with c7 | ⟨c7,c7'⟩ <;> rcases c8 with c8 | ⟨c8,c8'⟩ <;> simp[F339_b0,h,hn1,hix,z0,z0',c1,c7,c8,d1,d2, *]
                      · rcases c7 with c7 | ⟨c7,c7'⟩ <;> rcases c8 with c8 | ⟨c8,c8'⟩ <;> by_cases d3:y=46 <;> by_cases d4:y=36 <;> simp[F339_b0,h,hn1,hix,z0,z0',c1,c7,c8,d1,d2,d3,d4, *]
                    · rcases c7 with c7 | ⟨c7,c7'⟩ <;> rcases c8 with c8 | ⟨c8,c8'⟩ <;> by_cases d3:y=46 <;> by_cases d4:y=36 <;> simp[F339_b0,h,hn1,hix,z0,z0',c1,c7,c8,d1,d3,d4, *]
          · obtain rfl:i=s.length:=by omega
            simp[F339_b0]
        rcases hQ with⟨e,rfl⟩ | ⟨e,rfl,h2⟩
        · simp
        · simp[h2]
  exact⟨b,fun st=> den_shut (hp.at 3 rfl) rfl rfl (by simp) hb⟩
end
end Go.Sh
namespace Go.Sh
def namesO (o:ObS):List Byt8:=o.fn.map FnS.nm++o.tb.map TbS.nm++o.ex
theorem txC_len (l:List Byt8):(l.map txC).flatten.length=l.length:=by
  induction l with
  | nil=> rfl
  | cons a r ih=> simp only[List.map_cons,List.flatten_cons,List.length_append,ih,txC1,List.length_cons];omega
section
variable {pr:Prog}(hp:Sub objFns pr){st:St}
include hp
theorem den_names (o:ObS)(h1:o.fn.length≤1024)(h2:o.tb.length≤1024)(h3:o.ex.length≤1024):den pr 338 [.agg o.vs] st=some (dsl txC (decide (0 < (namesO o).length)) (namesO o),st):=by
  refine den_shut (hp.at 2 rfl) rfl rfl (by simp[o.close];rfl) ?_
  have hu1:=dsl_d FnS.c4 o.n2 o.fn
  have hu2:=dsl_d TbS.c5 o.n3 o.tb
  obtain⟨u0,hu0⟩:∃ u,u=dsl Ins.cells o.n1 o.tx:=⟨_,rfl⟩
  obtain⟨u1,huv1⟩:∃ u,u=dsl FnS.cells o.n2 o.fn:=⟨_,rfl⟩
  obtain⟨u2,huv2⟩:∃ u,u=dsl TbS.cells o.n3 o.tb:=⟨_,rfl⟩
  obtain⟨u4,hu4⟩:∃ u,u=dsl RlS.cells o.n5 o.rl:=⟨_,rfl⟩
  have hl1:=hu1.len
  have hl2:=hu2.len
  rw[List.length_map]at hl1 hl2
  rw[← huv1]at hu1 hl1
  rw[← huv2]at hu2 hl2
  simp[F338,ObS.vs,← hu0,← huv1,← huv2,← hu4,hl1]
  obtain⟨C,hC⟩:∃ C:Nat→List D,∀ i,C i=(((o.fn.take i).map FnS.nm).map txC).flatten:=⟨_,fun _=> rfl⟩
  have hC0:C 0= []:=by simp[hC]
  have hcl:∀ i,i≤o.fn.length→(C i).length=i:=fun i hi=> by rw[hC,txC_len,List.length_map,List.length_take];omega
  generalize hL:cden pr (.loop _ _ F338_b0) _ _=q
  obtain⟨r,rfl,hQ⟩:∃ r,q=some r∧∃ e,r=(.exit 0,e,s0 [.row [u0,u1,u2,dsl txC o.n4 o.ex,u4]] [o.fn.length] 0 0)∧e.get 1=some (.ptr 0 0)∧e.get 3=some (.own 1 o.fn.length (decide (0 < o.fn.length)) (C o.fn.length) 0):=by
    rw[← hL]
    clear hL
    refine loop_n o.fn.length (fun i=> [(1,.ptr 0 0),(3,.own 1 i (decide (0 < i)) (C i) 0),(9,u1),(10,.d (.i .i64 o.fn.length)),(11,.d (.i .i64 i))]) (fun i=> s0 [.row [u0,u1,u2,dsl txC o.n4 o.ex,u4]] [i] 0 0) ?_ (by simp[hC0]) (by simp)
    intro i hi
    rcases Nat.lt_or_ge i o.fn.length with h | h
    · obtain⟨x,hx⟩:∃ x,o.fn[i]? =some x:=⟨_,List.getElem?_eq_getElem h⟩
      have hn1:IntKind.wrap .i64 ((i:Int)+1)=i+1:=wrap_i64 (by omega) (by omega)
      have hia:=hu1.iaddr (i:=(i:Int)) (k:= .i64) (by omega) (by simp;omega)
      simp only[Int.toNat_natCast]at hia
      have hld:∀ st,loadV 4 true st (elP 4 u1 i 0)=some (.agg (ofDs x.cells)):=fun st=> by
        rw[hu1.load (el:=x.cells) (by simp[hx]) (by omega) (by omega)]
        rfl
      have hb1:(i+1) * 16≤140737488355328:=by omega
      have hb2:i+1≤140737488355328:=by omega
      have hC1:C (i+1)=C i++ [.s x.nm]:=by rw[hC,hC,List.take_add_one,hx];simp[txC]
      have hci:=hcl i hi
      simp[F338_b0,h,hn1,hia,hld,hu1.esc,FnS.cells,ofDs,lay,fillV,reps,toDs,toD,appV,vw,hb1,hb2,hC1,hci]
    · obtain rfl:i=o.fn.length:=by omega
      simp[F338_b0,hu1.esc]
  obtain⟨e,rfl,he1,he3⟩:=hQ
  simp[he1,he3,hl2]
  obtain⟨C',hC'⟩:∃ C':Nat→List D,∀ i,C' i=((o.fn.map FnS.nm++(o.tb.take i).map TbS.nm).map txC).flatten:=⟨_,fun _=> rfl⟩
  have hC0':C' 0=C o.fn.length:=by simp[hC,hC']
  have hcl':∀ i,i≤o.tb.length→(C' i).length=o.fn.length+i:=fun i hi=> by rw[hC',txC_len];simp;omega
  generalize hL:cden pr (.loop _ _ F338_b1) _ _=q
  obtain⟨r,rfl,hQ⟩:∃ r,q=some r∧∃ e,r=(.exit 2,e,s0 [.row [u0,u1,u2,dsl txC o.n4 o.ex,u4]] [o.fn.length+o.tb.length] 0 0)∧e.get 1=some (.ptr 0 0)∧e.get 3=some (.own 1 (o.fn.length+o.tb.length) (decide (0 < o.fn.length+o.tb.length)) (C' o.tb.length) 0):=by
    rw[← hL]
    clear hL
    refine loop_n o.tb.length (fun i=> [(1,.ptr 0 0),(3,.own 1 (o.fn.length+i) (decide (0 < o.fn.length+i)) (C' i) 0),(22,u2),(23,.d (.i .i64 o.tb.length)),(24,.d (.i .i64 i))]) (fun i=> s0 [.row [u0,u1,u2,dsl txC o.n4 o.ex,u4]] [o.fn.length+i] 0 0) ?_ (by simp[hC0']) (by simp)
    intro i hi
    rcases Nat.lt_or_ge i o.tb.length with h | h
    · obtain⟨x,hx⟩:∃ x,o.tb[i]? =some x:=⟨_,List.getElem?_eq_getElem h⟩
      have hn1:IntKind.wrap .i64 ((i:Int)+1)=i+1:=wrap_i64 (by omega) (by omega)
      have hia:=hu2.iaddr (i:=(i:Int)) (k:= .i64) (by omega) (by simp;omega)
      simp only[Int.toNat_natCast]at hia
      have hld:∀ st,loadV 5 true st (elP 5 u2 i 0)=some (.agg (ofDs x.cells)):=fun st=> by
        rw[hu2.load (el:=x.cells) (by simp[hx]) (by omega) (by omega)]
        rfl
      obtain⟨k,hk⟩:∃ k,k=o.fn.length+i:=⟨_,rfl⟩
      have hk1:o.fn.length+(i+1)=k+1:=by omega
      have hb1:(k+1) * 16≤140737488355328:=by omega
      have hb2:k+1≤140737488355328:=by omega
      have hC1:C' (i+1)=C' i++ [.s x.nm]:=by rw[hC',hC',List.take_add_one,hx];simp[txC]
      have hci:=hcl' i hi
      rw[← hk]at hci
      simp only[hk1,← hk]
      simp[F338_b1,h,hn1,hia,hld,hu2.esc,TbS.cells,ofDs,lay,fillV,reps,toDs,toD,appV,vw,hb1,hb2,hC1,hci]
      rw[hk1]
      exact⟨⟨rfl,by omega⟩,rfl⟩
    · obtain rfl:i=o.tb.length:=by omega
      simp[F338_b1,hu2.esc]
  obtain⟨e,rfl,he1,he3⟩:=hQ
  have hcf:=hcl' _ (Nat.le_refl _)
  have hb1:(o.fn.length+o.tb.length+o.ex.length) * 16≤140737488355328:=by omega
  have hb2:o.fn.length+o.tb.length+o.ex.length≤140737488355328:=by omega
  have hvw:=fun st=> dsl_vw txC o.n4 o.ex 1 st
  have hex:=txC_len o.ex
  have hC2:C' o.tb.length++(o.ex.map txC).flatten=((namesO o).map txC).flatten:=by rw[hC',List.take_of_length_le (Nat.le_refl _)];simp[namesO]
  have hnl:(namesO o).length=o.fn.length+o.tb.length+o.ex.length:=by simp[namesO];omega
  obtain⟨N,hN⟩:∃ N,N=o.fn.length+o.tb.length:=⟨_,rfl⟩
  rw[← hN]at hcf hb1 hb2 hnl he3
  simp only[← hN]
  have hd:(decide (0 < N) || decide (0 < N+o.ex.length))=decide (0 < N+o.ex.length):=by
    by_cases h:0 < N
    · have:0 < N+o.ex.length:=by omega
      simp[h,this]
    · simp[h]
  have hfin:dsl txC (decide (0 < (namesO o).length)) (namesO o)= .d (.sl (N+o.ex.length) (decide (0 < N+o.ex.length)) ((namesO o).map txC).flatten):=by rw[← hnl];rfl
  rw[hfin]
  clear hfin
  generalize (o.ex.map txC).flatten=E at hvw hex hC2
  generalize ((namesO o).map txC).flatten=G at hC2 ⊢
  simp[he1,he3,appV,hvw,hcf,hb1,hb2,hex,hC2]
  omega
theorem den_cut (o:ObS)(ho:o.ok):∃ k:Int,∀ st,den pr 340 [.agg o.vs] st=some (.d (.i .i64 k),st):=by
  obtain⟨k,hk⟩:∃ k:Int,finish F340 st0 (cden pr F340.body (initE 0 [.agg o.vs]) (start F340 st0))=some (.d (.i .i64 k),st0):=by
    have hu1:=dsl_d FnS.c4 o.n2 o.fn
    have hu0:=dsl_d insC o.n1 o.tx
    obtain⟨u0,huv0⟩:∃ u,u=dsl Ins.cells o.n1 o.tx:=⟨_,rfl⟩
    obtain⟨u1,huv1⟩:∃ u,u=dsl FnS.cells o.n2 o.fn:=⟨_,rfl⟩
    obtain⟨u2,huv2⟩:∃ u,u=dsl TbS.cells o.n3 o.tb:=⟨_,rfl⟩
    obtain⟨u3,huv3⟩:∃ u,u=dsl txC o.n4 o.ex:=⟨_,rfl⟩
    obtain⟨u4,hu4⟩:∃ u,u=dsl RlS.cells o.n5 o.rl:=⟨_,rfl⟩
    have hl0:=hu0.len
    have hl1:=hu1.len
    rw[List.length_map]at hl1 hl0
    rw[← huv0]at hu0 hl0
    rw[← huv1]at hu1 hl1
    simp[F340,ObS.vs,← huv0,← huv1,← huv2,← huv3,← hu4,hl1]
    generalize hL:cden pr (.loop _ _ F340_b0) _ _=q
    obtain⟨r,rfl,hQ⟩:∃ r,q=some r∧((∃ e a,r=(.exit 0,e,s0 [.row [u0,u1,u2,u3,u4]] [] 0 0)∧e.get 1=some (.ptr 0 0)∧e.get 3=some (.d (.i .i64 a)))∨(∃ e a,r=(.ret,e,s0 [.row [u0,u1,u2,u3,u4]] [] 0 0)∧e.get 2=some (.d (.i .i64 a)))):=by
      rw[← hL]
      clear hL
      refine loop_j (fun n e s=> ∃ i a,n=o.fn.length - i∧i≤o.fn.length∧e= [(1,.ptr 0 0),(3,.d (.i .i64 a)),(7,u1),(8,.d (.i .i64 o.fn.length)),(9,.d (.i .i64 (i:Nat)))]∧s=s0 [.row [u0,u1,u2,u3,u4]] [] 0 0) ?_ (n:=o.fn.length) ⟨0,0,by omega,by omega,by simp,by simp⟩
      rintro n e s ⟨i,a,rfl,hi,rfl,rfl⟩
      rcases Nat.lt_or_ge i o.fn.length with h | h
      · obtain⟨x,hx⟩:∃ x,o.fn[i]? =some x:=⟨_,List.getElem?_eq_getElem h⟩
        have:=ho.fn
        have hn1:IntKind.wrap .i64 ((i:Int)+1)=i+1:=wrap_i64 (by omega) (by omega)
        have hia:=hu1.iaddr (i:=(i:Int)) (k:= .i64) (by omega) (by simp;omega)
        simp only[Int.toNat_natCast]at hia
        have hld:∀ st,loadV 4 true st (elP 4 u1 i 0)=some (.agg (ofDs x.cells)):=fun st=> by
          rw[hu1.load (el:=x.cells) (by simp[hx]) (by omega) (by omega)]
          rfl
        obtain⟨w,hw⟩:∃ w,w=IntKind.wrap .i64 ((o.tx.length:Int) - a):=⟨_,rfl⟩
        have hlt:o.fn.length - (i+1) < o.fn.length - i:=by omega
        by_cases c1:x.fi=a
        · by_cases c2:x.co < 1
          · simp[F340_b0,h,hn1,hia,hld,hu1.esc,FnS.cells,ofDs,lay,c1,c2]
          · by_cases c3:w < x.co
            · simp[F340_b0,h,hn1,hia,hld,hu1.esc,FnS.cells,ofDs,lay,c1,c2,hl0,← hw,c3]
            · simp[F340_b0,h,hn1,hia,hld,hu1.esc,FnS.cells,ofDs,lay,c1,c2,hl0,← hw,c3]
              exact⟨_,hlt,i+1,rfl,h,rfl⟩
        · simp[F340_b0,h,hn1,hia,hld,hu1.esc,FnS.cells,ofDs,lay,c1]
      · obtain rfl:i=o.fn.length:=by omega
        simp[F340_b0,hu1.esc]
    rcases hQ with⟨e,a,rfl,he1,he3⟩ | ⟨e,a,rfl,he2⟩
    · by_cases c:a < (o.tx.length:Int)
      · simp[he1,he3,hl0,hl1,c]
      · simp[he1,he3,hl0,hl1,c]
    · simp[he2]
  exact⟨k,fun st=> den_shut (hp.at 4 rfl) rfl rfl (by simp[o.close]) hk⟩
theorem den_relocs (o:ObS)(ho:o.ok):∃ k:Int,∀ st,den pr 343 [.agg o.vs] st=some (.d (.i .i64 k),st):=by
  obtain⟨k,hk⟩:∃ k:Int,finish F343 st0 (cden pr F343.body (initE 0 [.agg o.vs]) (start F343 st0))=some (.d (.i .i64 k),st0):=by
    have hu1:=dsl_d FnS.c4 o.n2 o.fn
    have hu0:=dsl_d insC o.n1 o.tx
    have hu2:=dsl_d TbS.c5 o.n3 o.tb
    have hu3:=dsl_d txC1 o.n4 o.ex
    have hu4:=dsl_d RlS.c3 o.n5 o.rl
    obtain⟨u0,huv0⟩:∃ u,u=dsl Ins.cells o.n1 o.tx:=⟨_,rfl⟩
    obtain⟨u1,huv1⟩:∃ u,u=dsl FnS.cells o.n2 o.fn:=⟨_,rfl⟩
    obtain⟨u2,huv2⟩:∃ u,u=dsl TbS.cells o.n3 o.tb:=⟨_,rfl⟩
    obtain⟨u3,huv3⟩:∃ u,u=dsl txC o.n4 o.ex:=⟨_,rfl⟩
    obtain⟨u4,huv4⟩:∃ u,u=dsl RlS.cells o.n5 o.rl:=⟨_,rfl⟩
    have hl0:=hu0.len
    have hl1:=hu1.len
    have hl2:=hu2.len
    have hl3:=hu3.len
    have hl4:=hu4.len
    rw[List.length_map]at hl0 hl1 hl2 hl3 hl4
    rw[← huv0]at hu0 hl0
    rw[← huv1]at hu1 hl1
    rw[← huv2]at hu2 hl2
    rw[← huv3]at hu3 hl3
    rw[← huv4]at hu4 hl4
    simp[F343,ObS.vs,← huv0,← huv1,← huv2,← huv3,← huv4,hl0]
    generalize hL:cden pr (.loop _ _ F343_b0) _ _=q
    obtain⟨r,rfl,hQ⟩:∃ r,q=some r∧((∃ e a,r=(.exit 0,e,s0 [.row [u0,u1,u2,u3,u4]] [] 0 0)∧e.get 1=some (.ptr 0 0)∧e.get 3=some (.d (.i .i64 a)))∨(∃ e a,r=(.ret,e,s0 [.row [u0,u1,u2,u3,u4]] [] 0 0)∧e.get 2=some (.d (.i .i64 a)))):=by
      rw[← hL]
      clear hL
      refine loop_j (fun n e s=> ∃ i a:Nat,n=o.tx.length - i∧i≤o.tx.length∧a≤o.rl.length∧e= [(1,.ptr 0 0),(3,.d (.i .i64 a)),(10,u0),(11,.d (.i .i64 o.tx.length)),(12,.d (.i .i64 (i:Nat)))]∧s=s0 [.row [u0,u1,u2,u3,u4]] [] 0 0) ?_ (n:=o.tx.length) ⟨0,0,by omega,by omega,by omega,by simp,by simp⟩
      rintro n e s ⟨i,a,rfl,hi,ha,rfl,rfl⟩
      rcases Nat.lt_or_ge i o.tx.length with h | h
      · obtain⟨x,hx⟩:∃ x,o.tx[i]? =some x:=⟨_,List.getElem?_eq_getElem h⟩
        have b0:=ho.tx
        have b1:=ho.fn
        have b3:=ho.ex
        have b4:=ho.rl
        have hn1:IntKind.wrap .i64 ((i:Int)+1)=i+1:=wrap_i64 (by omega) (by omega)
        have hna:IntKind.wrap .i64 ((a:Int)+1)=a+1:=wrap_i64 (by omega) (by omega)
        have hia:=hu0.iaddr (i:=(i:Int)) (k:= .i64) (by omega) (by simp;omega)
        simp only[Int.toNat_natCast]at hia
        have hld:∀ st,loadV 5 true st (elP 5 u0 i 0)=some (.agg (ofDs x.cells)):=fun st=> by
          rw[hu0.load (el:=x.cells) (by simp[hx]) (by omega) (by omega)]
          rfl
        have hs:=fun st=> den_site hp (st:=st) x
        obtain⟨k,hkk⟩:∃ k,k=siteI x:=⟨_,rfl⟩
        rw[← hkk]at hs
        clear hkk
        have hlt:o.tx.length - (i+1) < o.tx.length - i:=by omega
        obtain⟨c0,hc0⟩:∃ c,ofDs x.cells=c∧c.length=5:=⟨_,rfl,rfl⟩
        obtain⟨q0,q1,q2,q3,q4,rfl⟩:∃ q0 q1 q2 q3 q4,c0= [q0,q1,q2,q3,q4]:=by
          match c0,hc0.2 with
          | [a,b,c,d,e],_=> exact⟨a,b,c,d,e,rfl⟩
        rw[hc0.1]at hld hs
        obtain⟨w,hw⟩:∃ w,w=IntKind.wrap .i64 ((o.fn.length:Int)+o.ex.length):=⟨_,rfl⟩
        by_cases c1:k=0
        · simp[F343_b0,h,hn1,hia,hld,hu0.esc,lay,ofDs,hs,c1]
          exact⟨_,hlt,i+1,rfl,h,a,ha,by simp,rfl⟩
        · by_cases c2:a=o.rl.length
          · have c2':(a:Int)=o.rl.length:=by omega
            simp[F343_b0,h,hn1,hia,hld,hu0.esc,lay,ofDs,hs,c1,hl4,c2]
          · have c2':¬ (a:Int)=o.rl.length:=by omega
            obtain⟨y,hy⟩:∃ y,o.rl[a]? =some y:=⟨_,List.getElem?_eq_getElem (by omega)⟩
            have hia4:=hu4.iaddr (i:=(a:Int)) (k:= .i64) (by omega) (by simp;omega)
            simp only[Int.toNat_natCast]at hia4
            have hld4:∀ st,loadV 3 true st (elP 3 u4 a 0)=some (.agg (ofDs y.cells)):=fun st=> by
              rw[hu4.load (el:=y.cells) (by simp[hy]) (by omega) (by omega)]
              rfl
            by_cases c3:k=2
            · by_cases d1:y.at'=i
              · by_cases d2:y.kind=2
                · by_cases d3:y.name < 0
                  · simp[F343_b0,h,hn1,hia,hld,hu0.esc,lay,hs,c1,hl4,hl2,hl1,hl3,c2,c2',c3,hia4,hld4,RlS.cells,ofDs,d1,d2,d3]
                  · by_cases d4:w≤y.name
                    · simp[F343_b0,h,hn1,hia,hld,hu0.esc,lay,hs,c1,hl4,hl2,hl1,hl3,c2,c2',c3,hia4,hld4,RlS.cells,ofDs,d1,d2,d3,← hw,d4]
                    · simp[F343_b0,h,hn1,hna,hia,hld,hu0.esc,lay,hs,c1,hl4,hl2,hl1,hl3,c2,c2',c3,hia4,hld4,RlS.cells,ofDs,d1,d2,d3,← hw,d4]
                      exact⟨_,hlt,i+1,rfl,h,a+1,by omega,by simp,rfl⟩
                · simp[F343_b0,h,hn1,hia,hld,hu0.esc,lay,hs,c1,hl4,hl2,hl1,hl3,c2,c2',c3,hia4,hld4,RlS.cells,ofDs,d1,d2]
              · simp[F343_b0,h,hn1,hia,hld,hu0.esc,lay,hs,c1,hl4,hl2,hl1,hl3,c2,c2',c3,hia4,hld4,RlS.cells,ofDs,d1]
            · by_cases d1:y.at'=i
              · by_cases d2:y.kind=k
                · by_cases d3:y.name < 0
                  · simp[F343_b0,h,hn1,hia,hld,hu0.esc,lay,hs,c1,hl4,hl2,hl1,hl3,c2,c2',c3,hia4,hld4,RlS.cells,ofDs,d1,d2,d3]
                  · by_cases d4:(o.tb.length:Int)≤y.name
                    · simp[F343_b0,h,hn1,hia,hld,hu0.esc,lay,hs,c1,hl4,hl2,hl1,hl3,c2,c2',c3,hia4,hld4,RlS.cells,ofDs,d1,d2,d3,d4]
                    · simp[F343_b0,h,hn1,hna,hia,hld,hu0.esc,lay,hs,c1,hl4,hl2,hl1,hl3,c2,c2',c3,hia4,hld4,RlS.cells,ofDs,d1,d2,d3,d4]
                      exact⟨_,hlt,i+1,rfl,h,a+1,by omega,by simp,rfl⟩
                · simp[F343_b0,h,hn1,hia,hld,hu0.esc,lay,hs,c1,hl4,hl2,hl1,hl3,c2,c2',c3,hia4,hld4,RlS.cells,ofDs,d1,d2]
              · simp[F343_b0,h,hn1,hia,hld,hu0.esc,lay,hs,c1,hl4,hl2,hl1,hl3,c2,c2',c3,hia4,hld4,RlS.cells,ofDs,d1]
      · obtain rfl:i=o.tx.length:=by omega
        simp[F343_b0,hu0.esc]
    rcases hQ with⟨e,a,rfl,he1,he3⟩ | ⟨e,a,rfl,he2⟩
    · by_cases c:a < (o.rl.length:Int)
      · simp[he1,he3,hl4,c]
      · simp[he1,he3,hl4,c]
    · simp[he2]
  exact⟨k,fun st=> den_shut (hp.at 7 rfl) rfl rfl (by simp[o.close]) hk⟩
end
end Go.Sh
namespace Go.Sh
def seenE (ns:List Byt8):List (D×V):=ns.zipIdx.map fun x=> (.s x.1,.d (.i .i64 x.2))
theorem find_seen (s:Byt8):∀ (ns:List Byt8) (k:Nat),findE (.s s) ((ns.zipIdx k).map fun x=> (D.s x.1,V.d (.i .i64 x.2)))=some (if s∈ns then some (.d (.i .i64 ((k+ns.idxOf s:Nat):Int))) else none)
  | [],k=> by simp[findE]
  | n::r,k=> by
    rw[List.zipIdx_cons,List.map_cons,findE]
    by_cases h:s=n
    · subst h
      simp[eqD]
    · have h':(s==n)=false:=by simpa using h
      have hn:(n==s)=false:=by simpa using fun e=> h e.symm
      simp only[eqD,h',find_seen s r (k+1)]
      by_cases hm:s∈r
      · simp[h,hm,List.idxOf_cons,hn]
        omega
      · simp[h,hm]
theorem set_seen (s:Byt8)(v:V):∀ (ns:List Byt8) (k:Nat),s∉ns→setE (.s s) v ((ns.zipIdx k).map fun x=> (D.s x.1,V.d (.i .i64 x.2)))=some ((ns.zipIdx k).map (fun x=> (D.s x.1,V.d (.i .i64 x.2)))++ [(.s s,v)])
  | [],k,_=> by simp[setE]
  | n::r,k,h=> by
    rw[List.mem_cons,not_or]at h
    have h':(s==n)=false:=by simpa using h.1
    rw[List.zipIdx_cons,List.map_cons,setE]
    simp[eqD,h',set_seen s v r (k+1) h.2]
theorem seen_snoc (ns:List Byt8)(s:Byt8):seenE (ns++ [s])=seenE ns++ [(.s s,.d (.i .i64 (ns.length:Int)))]:=by
  unfold seenE
  rw[List.zipIdx_append,List.map_append]
  simp
section
variable {pr:Prog}(hp:Sub objFns pr){st:St}
include hp
set_option maxHeartbeats 4000000 in
theorem den_check (hq:Sub slFns pr)(hI:IsaOk pr)(o:ObS)(ho:o.ok)(hs:∀ s∈namesO o,s.length≤9223372036854775807):∃ k e:Int,(∀ st,den pr 330 [.agg o.vs] st=some (.tup [.d (.i .i64 k),.d (.i .i64 e)],st))∧(e=0→slotsOf o.tx≤65536∧o.fn.length≤1024∧o.tb.length≤1024∧o.ex.length≤1024):=by
  obtain⟨k,e,hk,hb⟩:∃ k e:Int,finish F330 st0 (cden pr F330.body (initE 0 [.agg o.vs]) (start F330 st0))=some (.tup [.d (.i .i64 k),.d (.i .i64 e)],st0)∧(e=0→slotsOf o.tx≤65536∧o.fn.length≤1024∧o.tb.length≤1024∧o.ex.length≤1024):=by
    obtain⟨mk,hmk,hmb⟩:=den_many hp hq o ho
    obtain⟨ck,hck⟩:=den_cut hp o ho
    obtain⟨rk,hrk⟩:=den_relocs hp o ho
    have hu0:=dsl_d insC o.n1 o.tx
    have hu2:=dsl_d TbS.c5 o.n3 o.tb
    have hnm:=fun st=> den_names hp (st:=st) o
    obtain⟨u0,huv0⟩:∃ u,u=dsl Ins.cells o.n1 o.tx:=⟨_,rfl⟩
    obtain⟨u1,huv1⟩:∃ u,u=dsl FnS.cells o.n2 o.fn:=⟨_,rfl⟩
    obtain⟨u2,huv2⟩:∃ u,u=dsl TbS.cells o.n3 o.tb:=⟨_,rfl⟩
    obtain⟨u3,huv3⟩:∃ u,u=dsl txC o.n4 o.ex:=⟨_,rfl⟩
    obtain⟨u4,huv4⟩:∃ u,u=dsl RlS.cells o.n5 o.rl:=⟨_,rfl⟩
    have hl0:=hu0.len
    have hl2:=hu2.len
    rw[List.length_map]at hl0 hl2
    rw[← huv0]at hu0 hl0
    rw[← huv2]at hu2 hl2
    simp only[ObS.vs,← huv0,← huv1,← huv2,← huv3,← huv4]at hmk hck hrk hnm ⊢
    by_cases cm:0≤mk
    · refine⟨mk,121,?_,fun h=> by omega⟩
      simp[F330,hmk,cm]
    · have hb:=hmb (by omega)
      have hnm:=fun st=> hnm st hb.2.1 hb.2.2.1 hb.2.2.2
      have hu5:=dsl_d txC1 (decide (0 < (namesO o).length)) (namesO o)
      have hnl:(namesO o).length≤3072:=by simp[namesO];omega
      obtain⟨N,hN⟩:∃ N,N=namesO o:=⟨_,rfl⟩
      rw[← hN]at hnm hu5 hnl hs
      clear hN
      obtain⟨u5,huv5⟩:∃ u,u=dsl txC (decide (0 < N.length)) N:=⟨_,rfl⟩
      have hl5:=hu5.len
      rw[List.length_map]at hl5
      rw[← huv5]at hnm hu5 hl5
      clear huv5
      have hld5:∀ (i:Nat) (s:Byt8),N[i]? =some s→∀ st,loadV 1 false st (elP 1 u5 i 0)=some (.d (.s s)):=fun i s hx st=> by
        rw[hu5.load (el:=txC s) (by simp[hx]) (by omega) (by omega)]
        rfl
      suffices h:∃ k e:Int,finish F330 st0 (cden pr F330.body (initE 0 [.agg [u0,u1,u2,u3,u4]]) (start F330 st0))=some (.tup [.d (.i .i64 k),.d (.i .i64 e)],st0) by
        obtain⟨k,e,h⟩:=h
        exact⟨k,e,h,fun _=> hb⟩
      simp[F330,hmk,cm,hnm,hl5]
      generalize hL:cden pr (.loop _ _ F330_b0) _ _=q
      obtain⟨r,rfl,hQ⟩:∃ r,q=some r∧((∃ e,r=(.exit 0,e,s0 [.row [u0,u1,u2,u3,u4]] [] 0 0)∧e.get 1=some (.ptr 0 0)∧e.get 5=some u5)∨(∃ e s a b,r=(.ret,e,s)∧e.get 2=some (.d (.i .i64 a))∧e.get 3=some (.d (.i .i64 b)))):=by
        rw[← hL]
        clear hL
        refine loop_n N.length (fun i=> [(1,.ptr 0 0),(5,u5),(26,u5),(27,.d (.i .i64 N.length)),(28,.d (.i .i64 i))]) (fun i=> s0 [.row [u0,u1,u2,u3,u4]] [] 0 0) ?_ (by simp) (by simp)
        intro i hi
        rcases Nat.lt_or_ge i N.length with h | h
        · obtain⟨x,hx⟩:∃ x,N[i]? =some x:=⟨_,List.getElem?_eq_getElem h⟩
          have hn1:IntKind.wrap .i64 ((i:Int)+1)=i+1:=wrap_i64 (by omega) (by omega)
          have hia:=hu5.iaddr (i:=(i:Int)) (k:= .i64) (by omega) (by simp;omega)
          simp only[Int.toNat_natCast]at hia
          have hld:=hld5 i x hx
          obtain⟨b,hnd⟩:=den_named hp x (hs x (List.mem_of_getElem? hx))
          cases b <;> simp[F330_b0,h,hn1,hia,hld,hnd]
        · obtain rfl:i=N.length:=by omega
          simp[F330_b0]
      rcases hQ with⟨e,rfl,he1,he5⟩ | ⟨e,s,a,b,rfl,he2,he3⟩
      rotate_left
      · simp[he2,he3]
      simp[he1,he5,hl5]
      generalize hL:cden pr (.loop _ _ F330_b1) _ _=q
      obtain⟨r,rfl,hQ⟩:∃ r,q=some r∧((∃ e M,r=(.exit 2,e,s0 [.row [u0,u1,u2,u3,u4],.map M] [] 0 0)∧e.get 1=some (.ptr 0 0))∨(∃ e s a b,r=(.ret,e,s)∧e.get 2=some (.d (.i .i64 a))∧e.get 3=some (.d (.i .i64 b)))):=by
        rw[← hL]
        clear hL
        refine loop_n N.length (fun i=> [(1,.ptr 0 0),(8,.map 1),(39,u5),(40,.d (.i .i64 N.length)),(41,.d (.i .i64 i))]) (fun i=> s0 [.row [u0,u1,u2,u3,u4],.map (seenE (N.take i))] [] 0 0) ?_ (by simp) (by simp[seenE])
        intro i hi
        rcases Nat.lt_or_ge i N.length with h | h
        · obtain⟨x,hx⟩:∃ x,N[i]? =some x:=⟨_,List.getElem?_eq_getElem h⟩
          have hn1:IntKind.wrap .i64 ((i:Int)+1)=i+1:=wrap_i64 (by omega) (by omega)
          have hia:=hu5.iaddr (i:=(i:Int)) (k:= .i64) (by omega) (by simp;omega)
          simp only[Int.toNat_natCast]at hia
          have hld:=hld5 i x hx
          have hf:=find_seen x (N.take i) 0
          rw[show(((N.take i).zipIdx 0).map fun x=> (D.s x.1,V.d (.i .i64 x.2)))=seenE (N.take i) from rfl]at hf
          by_cases hm:x∈N.take i
          · rw[if_pos hm]at hf
            generalize (((0+(N.take i).idxOf x:Nat)):Int)=y at hf
            simp[F330_b1,h,hn1,hia,hld,lookV,keyOk,hf,lookOut,zeroV]
          · rw[if_neg hm]at hf
            have hset:=set_seen x (.d (.i .i64 (i:Int))) (N.take i) 0 hm
            rw[show(((N.take i).zipIdx 0).map fun x=> (D.s x.1,V.d (.i .i64 x.2)))=seenE (N.take i) from rfl]at hset
            have hsn:seenE (N.take (i+1))=seenE (N.take i)++ [(.s x,.d (.i .i64 (i:Int)))]:=by
              rw[List.take_add_one,hx,Option.toList_some,seen_snoc,List.length_take,Nat.min_eq_left hi]
            simp[F330_b1,h,hn1,hia,hld,lookV,keyOk,hf,lookOut,zeroV,mapSetV,hset,hsn]
        · obtain rfl:i=N.length:=by omega
          simp[F330_b1]
          exact⟨_,⟨rfl,_,rfl⟩,rfl⟩
      rcases hQ with⟨e,M,rfl,he1⟩ | ⟨e,s,a,b,rfl,he2,he3⟩
      rotate_left
      · simp[he2,he3]
      by_cases cc:0≤ck
      · simp[he1,hck,cc]
      simp[he1,hck,cc,hl2]
      generalize hL:cden pr (.loop _ _ F330_b2) _ _=q
      obtain⟨r,rfl,hQ⟩:∃ r,q=some r∧((∃ e,r=(.exit 4,e,s0 [.row [u0,u1,u2,u3,u4],.map M] [] 0 0)∧e.get 1=some (.ptr 0 0))∨(∃ e s a b,r=(.ret,e,s)∧e.get 2=some (.d (.i .i64 a))∧e.get 3=some (.d (.i .i64 b)))):=by
        rw[← hL]
        clear hL
        refine loop_n o.tb.length (fun i=> [(1,.ptr 0 0),(64,u2),(65,.d (.i .i64 o.tb.length)),(66,.d (.i .i64 i))]) (fun i=> s0 [.row [u0,u1,u2,u3,u4],.map M] [] 0 0) ?_ (by simp) (by simp)
        intro i hi
        rcases Nat.lt_or_ge i o.tb.length with h | h
        · obtain⟨x,hx⟩:∃ x,o.tb[i]? =some x:=⟨_,List.getElem?_eq_getElem h⟩
          have hn1:IntKind.wrap .i64 ((i:Int)+1)=i+1:=wrap_i64 (by omega) (by omega)
          have hia:=hu2.iaddr (i:=(i:Int)) (k:= .i64) (by omega) (by simp;omega)
          simp only[Int.toNat_natCast]at hia
          have hld:∀ st,loadV 5 true st (elP 5 u2 i 0)=some (.agg (ofDs x.cells)):=fun st=> by
            rw[hu2.load (el:=x.cells) (by simp[hx]) (by omega) (by omega)]
            rfl
          obtain⟨b,hnd⟩:=den_tab hp x
          obtain⟨q0,q1,q2,q3,q4,hq⟩:∃ q0 q1 q2 q3 q4,ofDs x.cells= [q0,q1,q2,q3,q4]:=⟨_,_,_,_,_,rfl⟩
          rw[hq]at hld hnd
          cases b <;> simp[F330_b2,h,hn1,hia,hld,hnd,lay,ofDs,hu2.esc]
        · obtain rfl:i=o.tb.length:=by omega
          simp[F330_b2,hu2.esc]
      rcases hQ with⟨e,rfl,he1⟩ | ⟨e,s,a,b,rfl,he2,he3⟩
      rotate_left
      · simp[he2,he3]
      simp[he1,hl0]
      generalize hL:cden pr (.loop _ _ F330_b3) _ _=q
      obtain⟨r,rfl,hQ⟩:∃ r,q=some r∧((∃ e,r=(.exit 6,e,s0 [.row [u0,u1,u2,u3,u4],.map M] [] 0 0)∧e.get 1=some (.ptr 0 0))∨(∃ e s a b,r=(.ret,e,s)∧e.get 2=some (.d (.i .i64 a))∧e.get 3=some (.d (.i .i64 b)))):=by
        rw[← hL]
        clear hL
        refine loop_n o.tx.length (fun i=> [(1,.ptr 0 0),(77,u0),(78,.d (.i .i64 o.tx.length)),(79,.d (.i .i64 i))]) (fun i=> s0 [.row [u0,u1,u2,u3,u4],.map M] [] 0 0) ?_ (by simp) (by simp)
        intro i hi
        rcases Nat.lt_or_ge i o.tx.length with h | h
        · obtain⟨x,hx⟩:∃ x,o.tx[i]? =some x:=⟨_,List.getElem?_eq_getElem h⟩
          have b0:=ho.tx
          have hn1:IntKind.wrap .i64 ((i:Int)+1)=i+1:=wrap_i64 (by omega) (by omega)
          have hia:=hu0.iaddr (i:=(i:Int)) (k:= .i64) (by omega) (by simp;omega)
          simp only[Int.toNat_natCast]at hia
          have hld:∀ st,loadV 5 true st (elP 5 u0 i 0)=some (.agg (ofDs x.cells)):=fun st=> by
            rw[hu0.load (el:=x.cells) (by simp[hx]) (by omega) (by omega)]
            rfl
          obtain⟨b,hnd⟩:=den_insn hp hI x
          obtain⟨q0,q1,q2,q3,q4,hq⟩:∃ q0 q1 q2 q3 q4,ofDs x.cells= [q0,q1,q2,q3,q4]:=⟨_,_,_,_,_,rfl⟩
          rw[hq]at hld hnd
          cases b <;> simp[F330_b3,h,hn1,hia,hld,hnd,lay,ofDs,hu0.esc]
        · obtain rfl:i=o.tx.length:=by omega
          simp[F330_b3,hu0.esc]
      rcases hQ with⟨e,rfl,he1⟩ | ⟨e,s,a,b,rfl,he2,he3⟩
      rotate_left
      · simp[he2,he3]
      by_cases cr:0≤rk
      · simp[he1,hrk,cr]
      · simp[he1,hrk,cr]
  exact⟨k,e,fun st=> den_shut (hp.at 0 rfl) rfl rfl (by simp[o.close]) hk,hb⟩
end
end Go.Sh
