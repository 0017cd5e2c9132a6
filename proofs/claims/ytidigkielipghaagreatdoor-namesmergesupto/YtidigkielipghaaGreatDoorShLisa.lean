/- Part of the proof. -/
import Derived.Test.YtidigkielipghaaGreatDoorShBe
import Derived.Test.YtidigkielipghaaGreatDoorShFisa
import Derived.Test.YtidigkielipghaaGreatDoorShFref2
import Derived.Test.YtidigkielipghaaGreatDoorShFslices
set_option linter.unusedVariables false
set_option linter.unusedSimpArgs false
namespace Go.Sh
structure Ins where
  op:Int
  dst:Int
  src:Int
  off:Int
  imm:Int
  deriving DecidableEq
def Ins.cells (x:Ins):List D:= [.i .i64 x.op,.i .i64 x.dst,.i .i64 x.src,.i .i64 x.off,.i .i64 x.imm]
def ic (x:Int):List D:= [.i .i64 x]
theorem icC (x:Int):(ic x).length=1:=rfl
def isaFns:List (Nat×SFn):= [(22,F22),(24,F24),(28,F28),(29,F29),(27,F27)]
def refFns:List (Nat×SFn):= [(23,F23),(68,F68),(67,F67),(65,F65)]
structure RowS where
  form:Int
  group:Int
  dst:Bool
  src:Bool
  off:Bool
  imm:Bool
  any:Bool
  srcIs:Int
  offIs:Int
  imms:List Int
  deriving DecidableEq
def RowS.cells (r:RowS):List D:= [.i .i64 r.form,.i .i64 r.group,.b r.dst,.b r.src,.b r.off,.b r.imm,.b r.any,.i .i64 r.srcIs,.i .i64 r.offIs,.sl r.imms.length (decide (0 < r.imms.length)) (r.imms.map ic).flatten]
theorem rowC (r:RowS):r.cells.length=10:=rfl
def regB (used:Bool)(is x:Int):Bool:=if used then decide (0≤x∧x≤10) else decide (x=is)
def RowS.fits (r:RowS)(i:Ins):Bool:=
  (if r.off then decide (-32768≤i.off∧i.off≤32767) else decide (i.off=r.offIs)) &&
  (if r.imm then r.any || decide (-2147483648≤i.imm∧i.imm≤2147483647) else if 0 < r.imms.length then decide (i.imm∈r.imms) else decide (i.imm=0)) &&
  regB r.dst 0 i.dst && regB r.src r.srcIs i.src
section
variable {pr:Prog}(hp:Sub isaFns pr){st:St}
include hp
theorem den_index {v:V}{l:List Int}(hv:SlC 1 v (l.map ic))(hl:l.length≤9223372036854775806)(x:Int):∃ k:Int,den pr 24 [v,.d (.i .i64 x)] st=some (.d (.i .i64 k),st)∧(0≤k↔x∈l):=by
  obtain⟨u,hc,hu⟩:=hv.close
  have hlen:=hu.len
  rw[List.length_map]at hlen
  have:∃ k:Int,finish F24 st0 (cden pr F24.body (initE 0 [u,.d (.i .i64 x)]) (start F24 st0))=some (.d (.i .i64 k),st0)∧(0≤k↔x∈l):=by
    simp[F24,hlen]
    generalize hL:cden pr (.loop _ _ _) _ _=o
    obtain⟨r,rfl,hQ⟩:∃ r,o=some r∧((x∉l∧∃ e,r=(.exit 0,e,s0 [] [] 0 0))∨(x∈l∧∃ e,∃ i:Nat,r=(.ret,e,s0 [] [] 0 0)∧e.get 4=some (.d (.i .i64 i)))):=by
      rw[← hL]
      obtain⟨J,hJ⟩:∃ J:Nat→Env→St→Prop,J=(fun n e st=> ∃ i:Nat,i≤l.length∧n=l.length - i∧x∉l.take i∧st=s0 [] [] 0 0∧e= [(0,u),(1,.d (.i .i64 x)),(7,.d (.i .i64 l.length)),(8,.d (.i .i64 i))]):=⟨_,rfl⟩
      refine loop_j J ?_ (n:=l.length) ?_
      rotate_left
      · rw[hJ]
        exact⟨0,by omega,by omega,by simp,rfl,by simp⟩
      intro n e st hj
      rw[hJ]at hj
      obtain⟨i,hi,rfl,htk,rfl,rfl⟩:=hj
      rcases Nat.lt_or_ge i l.length with h | h
      · obtain⟨y,hy⟩:∃ y,l[i]? =some y:=⟨_,List.getElem?_eq_getElem h⟩
        have h1:IntKind.wrap .i64 ((i:Int)+1)=i+1:=wrap_i64 (by omega) (by omega)
        have hia:=hu.iaddr (i:=(i:Int)) (k:= .i64) (by omega) (by simp;omega)
        have hld:=fun st=> hu.load (st:=st) (i:=i) (o:=0) (n:=1) (agg:=false) (el:=ic y) (by simp[hy]) (by omega) (by omega)
        by_cases hxy:x=y
        · subst hxy
          have hm:=List.mem_of_getElem? hy
          simp[F24_b0,h,hia,hld,ic,ofDs,hm]
          exact⟨i,rfl⟩
        · simp[F24_b0,h,hia,hld,ic,ofDs,hxy,h1]
          refine⟨l.length - (i+1),by omega,?_⟩
          rw[hJ]
          exact⟨i+1,by omega,rfl,by rw[List.take_add_one,hy];simp[htk,hxy],rfl,by simp⟩
      · obtain rfl:i=l.length:=by omega
        rw[List.take_length]at htk
        simp[F24_b0,htk]
    rcases hQ with⟨hx,e,rfl⟩ | ⟨hx,e,i,rfl,h4⟩
    · simp[hx]
    · simp[h4,hx]
  obtain⟨k,h1,h2⟩:=this
  exact⟨k,den_shut (hp.at 1 rfl) rfl rfl (by simp[hc]) h1,h2⟩
theorem den_contains {v:V}{l:List Int}(hv:SlC 1 v (l.map ic))(hl:l.length≤9223372036854775806)(x:Int):den pr 22 [v,.d (.i .i64 x)] st=some (.d (.b (decide (x∈l))),st):=by
  obtain⟨u,hc,hu⟩:=hv.close
  refine den_shut (hp.at 0 rfl) rfl rfl (by simp[hc];rfl) ?_
  obtain⟨k,h1,h2⟩:=den_index hp (st:=s0 [] [] 0 0) hu.c hl x
  simp[F22,h1]
  by_cases h:x∈l <;> simp[h]at h2 ⊢ <;> omega
end
section
variable {pr:Prog}(hp:Sub refFns pr){st:St}
include hp
theorem den_has {v:V}{l:List Int}(hv:SlC 1 v (l.map ic))(hl:l.length≤9223372036854775806)(x:Int):den pr 23 [v,.d (.i .i64 x)] st=some (.d (.b (decide (x∈l))),st):=by
  obtain⟨u,hc,hu⟩:=hv.close
  have hlen:=hu.len
  rw[List.length_map]at hlen
  refine den_shut (hp.at 0 rfl) rfl rfl (by simp[hc];rfl) ?_
  simp[F23,hlen]
  generalize hL:cden pr (.loop _ _ _) _ _=o
  obtain⟨r,rfl,hQ⟩:∃ r,o=some r∧((x∉l∧∃ e,r=(.exit 0,e,s0 [] [] 0 0))∨(x∈l∧∃ e,r=(.ret,e,s0 [] [] 0 0)∧e.get 4=some (.d (.b true)))):=by
    rw[← hL]
    obtain⟨J,hJ⟩:∃ J:Nat→Env→St→Prop,J=(fun n e st=> ∃ i:Nat,i≤l.length∧n=l.length - i∧x∉l.take i∧st=s0 [] [] 0 0∧e= [(0,u),(1,.d (.i .i64 x)),(5,.d (.i .i64 i))]):=⟨_,rfl⟩
    refine loop_j J ?_ (n:=l.length) ?_
    rotate_left
    · rw[hJ]
      exact⟨0,by omega,by omega,by simp,rfl,by simp⟩
    intro n e st hj
    rw[hJ]at hj
    obtain⟨i,hi,rfl,htk,rfl,rfl⟩:=hj
    rcases Nat.lt_or_ge i l.length with h | h
    · obtain⟨y,hy⟩:∃ y,l[i]? =some y:=⟨_,List.getElem?_eq_getElem h⟩
      have h1:IntKind.wrap .i64 ((i:Int)+1)=i+1:=wrap_i64 (by omega) (by omega)
      have hia:=hu.iaddr (i:=(i:Int)) (k:= .i64) (by omega) (by simp;omega)
      have hld:=fun st=> hu.load (st:=st) (i:=i) (o:=0) (n:=1) (agg:=false) (el:=ic y) (by simp[hy]) (by omega) (by omega)
      by_cases hxy:y=x
      · subst hxy
        have hm:=List.mem_of_getElem? hy
        simp[F23_b0,hlen,h,hia,hld,ic,ofDs,hm]
      · have hxy':¬ x=y:=fun e=> hxy e.symm
        simp[F23_b0,hlen,h,hia,hld,ic,ofDs,hxy,h1]
        refine⟨l.length - (i+1),by omega,?_⟩
        rw[hJ]
        exact⟨i+1,by omega,rfl,by rw[List.take_add_one,hy];simp[htk,hxy'],rfl,by simp⟩
    · have hil:i=l.length:=by omega
      rw[List.take_of_length_le (by omega)]at htk
      simp[F23_b0,hlen,hil,htk]
  rcases hQ with⟨hx,e,rfl⟩ | ⟨hx,e,rfl,h4⟩
  · simp[hx]
  · simp[h4,hx]
theorem den_register (used:Bool)(is x:Int):den pr 68 [.d (.b used),.d (.i .i64 is),.d (.i .i64 x)] st=some (.d (.b (regB used is x)),st):=by
  refine den_shut (hp.at 1 rfl) rfl rfl (by simp;rfl) ?_
  cases used
  · simp[F68,regB]
  · by_cases h1:0≤x <;> simp[F68,F68_r0,regB,h1]
theorem den_fits (r:RowS)(hn:r.imms.length≤1000)(i:Ins):den pr 67 [.agg (ofDs r.cells),.agg (ofDs i.cells)] st=some (.d (.b (r.fits i)),st):=by
  refine den_shut (hp.at 2 rfl) rfl rfl (by simp;rfl) ?_
  obtain⟨form,group,dst,src,off,imm,any,srcIs,offIs,imms⟩:=r
  obtain⟨iop,idst,isrc,ioff,iimm⟩:=i
  have hreg:=fun st used is x=> den_register hp (st:=st) used is x
  have hhas:=fun st nz=> den_has hp (st:=st) (v:= .d (.sl imms.length nz (imms.map ic).flatten)) (dsl_c icC nz imms) (by simp at hn;omega) iimm
  obtain⟨nz,hnz⟩:∃ nz,nz=decide (0 < imms.length):=⟨_,rfl⟩
  obtain⟨offB,hoffB⟩:∃ b,b=(if off then decide (-32768≤ioff∧ioff≤32767) else decide (ioff=offIs)):=⟨_,rfl⟩
  obtain⟨immB,himmB⟩:∃ b,b=(if imm then any || decide (-2147483648≤iimm∧iimm≤2147483647) else if 0 < imms.length then decide (iimm∈imms) else decide (iimm=0)):=⟨_,rfl⟩
  have hfin:RowS.fits ⟨form,group,dst,src,off,imm,any,srcIs,offIs,imms⟩ ⟨iop,idst,isrc,ioff,iimm⟩=(offB && immB && regB dst 0 idst && regB src srcIs isrc):=by
    rw[hoffB,himmB]
    rfl
  rw[hfin]
  simp only[RowS.cells,Ins.cells,← hnz,ofDs,List.map_cons,List.map_nil]
  obtain⟨S,hS⟩:∃ S,S=s0 [.row [.d (.i .i64 form),.d (.i .i64 group),.d (.b dst),.d (.b src),.d (.b off),.d (.b imm),.d (.b any),.d (.i .i64 srcIs),.d (.i .i64 offIs),.d (.sl imms.length nz (imms.map ic).flatten)],
    .row [.d (.i .i64 iop),.d (.i .i64 idst),.d (.i .i64 isrc),.d (.i .i64 ioff),.d (.i .i64 iimm)]] [] 0 0:=⟨_,rfl⟩
  have r2:∃ e',opsS pr (den pr) F67_r2 F67_r2 [(2,.ptr 0 0),(3,.ptr 1 0),(5,.d (.b offB)),(6,.d (.b immB))] S=some (e',S)∧e'.get 4=some (.d (.b (offB && immB && regB dst 0 idst && regB src srcIs isrc))):=by
    rw[hS]
    cases offB
    · simp[F67_r2]
    cases immB
    · simp[F67_r2]
    cases h3:regB dst 0 idst <;> simp[F67_r2,hreg,h3]
  have r0:off=true→∃ e',opsS pr (den pr) F67_r0 F67_r0 [(2,.ptr 0 0),(3,.ptr 1 0)] S=some (e',S)∧e'.get 2=some (.ptr 0 0)∧e'.get 3=some (.ptr 1 0)∧e'.get 5=some (.d (.b offB)):=by
    intro ho
    rw[hS,hoffB,ho]
    by_cases h1: -32768≤ioff <;> simp[F67_r0,h1]
  have r1:imm=true→∃ e',opsS pr (den pr) F67_r1 F67_r1 [(2,.ptr 0 0),(3,.ptr 1 0),(5,.d (.b offB))] S=some (e',S)∧e'.get 2=some (.ptr 0 0)∧e'.get 3=some (.ptr 1 0)∧e'.get 5=some (.d (.b offB))∧e'.get 6=some (.d (.b immB)):=by
    intro ho
    rw[hS,himmB,ho]
    cases any
    · by_cases h1: -2147483648≤iimm <;> simp[F67_r1,h1]
    · simp[F67_r1]
  obtain⟨e2,g1,g2⟩:=r2
  have main:∀ e5,opsS pr (den pr) F67_r2 F67_r2 [(2,.ptr 0 0),(3,.ptr 1 0),(5,.d (.b offB)),(6,.d (.b immB))] S=some (e5,S)→True:=fun _ _=> trivial
  by_cases hz:0 < imms.length <;> cases off <;> cases imm
  all_goals
    first
      | obtain⟨e0,p1,p2,p3,p4⟩:=r0 rfl
      | skip
    first
      | obtain⟨e1,k1,k2,k3,k4,k5⟩:=r1 rfl
      | skip
    simp[hz]at hoffB himmB
    simp_all [F67]
theorem den_refMay (i:Ins){nz:Bool}{rows:List RowS}(hrows:∀ st,den pr 17 [.d (.i .i64 i.op)] st=some (dsl RowS.cells nz rows,st))(hl:rows.length≤1000)(hn:∀ r∈rows,r.imms.length≤1000):
    den pr 65 [.agg (ofDs i.cells)] st=some (.d (.i .i64 (if rows= []then 20 else if rows.any (·.fits i) then 0 else 21)),st):=by
  refine den_shut (hp.at 3 rfl) rfl rfl (by simp;rfl) ?_
  obtain⟨iop,idst,isrc,ioff,iimm⟩:=i
  simp only at hrows
  have hu:=dsl_d rowC nz rows
  by_cases he:rows= []
  · subst he
    simp[F65,Ins.cells,ofDs,hrows]
  have hpos:0 < rows.length:=List.length_pos_iff.2 he
  have hne:¬ (rows.length:Int)=0:=by omega
  simp[F65,Ins.cells,ofDs,hrows,he]
  generalize hL:cden pr (.loop _ _ _) _ _=o
  obtain⟨r,rfl,hQ⟩:∃ r,o=some r∧((rows.any (·.fits ⟨iop,idst,isrc,ioff,iimm⟩)=false∧∃ e,∃ s,r=(.exit 0,e,s))∨(rows.any (·.fits ⟨iop,idst,isrc,ioff,iimm⟩)=true∧∃ e,∃ s,r=(.ret,e,s)∧e.get 2=some (.d (.i .i64 0)))):=by
    rw[← hL]
    obtain⟨J,hJ⟩:∃ J:Nat→Env→St→Prop,J=(fun n e st=> ∃ k:Nat,k≤rows.length∧n=rows.length - k∧(∀ r∈rows.take k,r.fits ⟨iop,idst,isrc,ioff,iimm⟩=false)∧st=s0 [.row [.d (.i .i64 iop),.d (.i .i64 idst),.d (.i .i64 isrc),.d (.i .i64 ioff),.d (.i .i64 iimm)]] [] 0 0∧e= [(1,.ptr 0 0),(3,dsl RowS.cells nz rows),(4,.d (.i .i64 k))]):=⟨_,rfl⟩
    refine loop_j J ?_ (n:=rows.length) ?_
    rotate_left
    · rw[hJ]
      exact⟨0,by omega,by omega,by simp,rfl,by simp⟩
    intro n e st hj
    rw[hJ]at hj
    obtain⟨k,hk,rfl,htk,rfl,rfl⟩:=hj
    rcases Nat.lt_or_ge k rows.length with h | h
    · obtain⟨y,hy⟩:∃ y,rows[k]? =some y:=⟨_,List.getElem?_eq_getElem h⟩
      have hm:=List.mem_of_getElem? hy
      have h1:IntKind.wrap .i64 ((k:Int)+1)=k+1:=wrap_i64 (by omega) (by omega)
      have hia:=hu.iaddr (i:=(k:Int)) (k:= .i64) (by omega) (by simp;omega)
      have hld:=fun st=> hu.load (st:=st) (i:=k) (o:=0) (n:=10) (agg:=true) (el:=y.cells) (by simp[hy]) (by omega) (by omega)
      have hf:=fun st=> den_fits hp (st:=st) y (hn y hm) ⟨iop,idst,isrc,ioff,iimm⟩
      have ht:y.cells.take 10=y.cells:=List.take_of_length_le (by simp[rowC])
      simp only[Ins.cells,ofDs,List.map_cons,List.map_nil]at hf
      cases hfy:y.fits ⟨iop,idst,isrc,ioff,iimm⟩
      · simp[F65_b0,h,hia,hld,ht,ofDs,hf,hfy,h1]
        refine⟨rows.length - (k+1),by omega,?_⟩
        rw[hJ]
        refine⟨k+1,by omega,rfl,?_,rfl,by simp⟩
        intro r hr
        rw[List.take_add_one,hy]at hr
        simp only[Option.toList,List.mem_append,List.mem_singleton]at hr
        rcases hr with hr | rfl
        · exact htk r hr
        · exact hfy
      · have hany:rows.any (·.fits ⟨iop,idst,isrc,ioff,iimm⟩)=true:=List.any_eq_true.2 ⟨y,hm,hfy⟩
        simp[F65_b0,h,hia,hld,ht,ofDs,hf,hfy,h1]
        simpa using hany
    · have hkl:k=rows.length:=by omega
      rw[List.take_of_length_le (by omega)]at htk
      have hany:rows.any (·.fits ⟨iop,idst,isrc,ioff,iimm⟩)=false:=by
        rw[List.any_eq_false]
        intro r hr
        simp[htk r hr]
      simp[F65_b0,hkl]
      simpa using hany
  rcases hQ with⟨hx,e,s,rfl⟩ | ⟨hx,e,s,rfl,h4⟩
  · simp[hx]
    simpa using hx
  · simp[h4,hx]
    simpa using hx
end
structure OpD where
  dst:Bool
  src:Bool
  off:Bool
  imm:Bool
  named:Bool
  wide:Bool
  offs:List Int
  imms:List Int
  deriving DecidableEq
def OpD.may (d:OpD)(i:Ins):Bool:=
  (if d.dst then decide (0≤i.dst∧i.dst≤10) else decide (i.dst=0)) &&
  (if d.src then decide (0≤i.src∧i.src≤10) else true) &&
  (if d.named then decide (i.src=0∨i.src=1) else if d.src then true else decide (i.src=0)) &&
  (if d.off then decide (-32768≤i.off∧i.off < 32768) else decide (i.off∈d.offs)) &&
  (if d.imm then decide (-2147483648≤i.imm∧i.imm < 2147483648) || (d.wide && decide (i.src=0)) else decide (i.imm∈d.imms))
def offsOf (form hi r8 r7:Int):List Int:=if form=3 then(if hi=48∨hi=144 then [0,1]else if hi=176∧r8≠0 then(if r7=7 then [0,8,16,32]else [0,8,16]) else [0]) else [0]
def atomsL:List Int:= [0x00,0x40,0x50,0xa0,0x01,0x41,0x51,0xa1,0xe1,0xf1]
def immsOf (op form hi:Int):List Int:=if op=219∨op=195 then atomsL else if form=2∧hi=208 then [16,32,64]else [0]
section
variable {pr:Prog}(hp:Sub isaFns pr){st:St}{op form hi r8 r7:Int}(hform:∀ st,den pr 18 [.d (.i .i64 op)] st=some (.d (.i .i64 form),st))(hhi:bitI .and .i64 op 240=some (.i .i64 hi))(h8:bitI .and .i64 op 8=some (.i .i64 r8))(h7:bitI .and .i64 op 7=some (.i .i64 r7))
include hp hform hhi h8 h7
theorem den_offs (i:Ins)(hi':i.op=op):den pr 28 [.agg (ofDs i.cells)] st=some (.d (.b (decide (i.off∈offsOf form hi r8 r7))),st):=by
  refine den_shut (hp.at 2 rfl) rfl rfl (by simp;rfl) ?_
  obtain⟨iop,idst,isrc,ioff,iimm⟩:=i
  simp only at hi'
  subst hi'
  have hmem0:(0:Int)∈offsOf form hi r8 r7:=by
    unfold offsOf
    split
    · split
      · simp
      · split
        · split <;> simp
        · simp
    · simp
  by_cases h0:ioff=0
  · subst h0
    simp[F28,Ins.cells,ofDs,hmem0]
  by_cases hf:form=3
  rotate_left
  · simp[F28,Ins.cells,ofDs,h0,hhi,hform,hf,offsOf]
  by_cases hd:hi=48
  · simp[F28,F28_r0,Ins.cells,ofDs,h0,hhi,hform,hf,offsOf,hd]
  by_cases hd2:hi=144
  · simp[F28,F28_r0,Ins.cells,ofDs,h0,hhi,hform,hf,offsOf,hd,hd2]
  by_cases hm:hi=176
  rotate_left
  · simp[F28,F28_r0,F28_r1,Ins.cells,ofDs,h0,hhi,hform,hf,offsOf,hd,hd2,hm]
  by_cases h8':r8=0
  · simp[F28,F28_r0,F28_r1,Ins.cells,ofDs,h0,hhi,h8,hform,hf,offsOf,hd,hd2,hm,h8']
  by_cases e8:ioff=8
  · by_cases h7':r7=7 <;> simp[F28,F28_r0,F28_r1,F28_r2,Ins.cells,ofDs,h0,hhi,h8,h7,hform,hf,offsOf,hd,hd2,hm,h8',e8,h7']
  by_cases e16:ioff=16
  · by_cases h7':r7=7 <;> simp[F28,F28_r0,F28_r1,F28_r2,Ins.cells,ofDs,h0,hhi,h8,h7,hform,hf,offsOf,hd,hd2,hm,h8',e8,e16,h7']
  by_cases e32:ioff=32 <;> by_cases h7':r7=7 <;> simp[F28,F28_r0,F28_r1,F28_r2,Ins.cells,ofDs,h0,hhi,h8,h7,hform,hf,offsOf,hd,hd2,hm,h8',e8,e16,e32,h7']
theorem den_imms (hg:pr.glob 4=some (atomsL.map fun n=> .i .i64 n))(i:Ins)(hi':i.op=op):den pr 29 [.agg (ofDs i.cells)] st=some (.d (.b (decide (i.imm∈immsOf op form hi))),st):=by
  refine den_shut (hp.at 3 rfl) rfl rfl (by simp;rfl) ?_
  obtain⟨iop,idst,isrc,ioff,iimm⟩:=i
  simp only at hi'
  subst hi'
  have hc:=fun st=> den_contains hp (st:=st) (v:=dsl ic true atomsL) (dsl_c icC true atomsL) (by simp[atomsL]) iimm
  simp[dsl,atomsL,ic]at hc
  by_cases h1:iop=219
  · simp[F29,F29_r0,Ins.cells,ofDs,h1,hg,slcAV,bnds,bnd,atomsL,hc,immsOf]
  by_cases h2:iop=195
  · simp[F29,F29_r0,Ins.cells,ofDs,h1,h2,hg,slcAV,bnds,bnd,atomsL,hc,immsOf]
  by_cases hf:form=2
  rotate_left
  · simp[F29,F29_r0,F29_r1,Ins.cells,ofDs,h1,h2,hform,hf,immsOf]
  by_cases hd:hi=208
  rotate_left
  · simp[F29,F29_r0,F29_r1,Ins.cells,ofDs,h1,h2,hform,hf,hhi,hd,immsOf]
  by_cases e1:iimm=16
  · simp[F29,F29_r0,F29_r1,F29_r2,Ins.cells,ofDs,h1,h2,hform,hf,hhi,hd,immsOf,e1]
  by_cases e2:iimm=32 <;> simp[F29,F29_r0,F29_r1,F29_r2,Ins.cells,ofDs,h1,h2,hform,hf,hhi,hd,immsOf,e1,e2]
theorem den_isaMay (hg:pr.glob 4=some (atomsL.map fun n=> .i .i64 n)){uform group e:Int}{dst src off imm:Bool}
    (hinfo:∀ st,den pr 11 [.d (.i .i64 op)] st=some (.tup [.agg [.d (.i .i64 uform),.d (.i .i64 group),.d (.b dst),.d (.b src),.d (.b off),.d (.b imm)],.d (.i .i64 e)],st)) (i:Ins) (hi':i.op=op):
    den pr 27 [.agg (ofDs i.cells)] st=some (.d (.i .i64 (if e≠0 then e else if OpD.may ⟨dst,src,off,imm,decide (op=133∨op=24),decide (op=24),offsOf form hi r8 r7,immsOf op form hi⟩ i then 0 else 21)),st):=by
  have hoffs:=fun st=> den_offs hp hform hhi h8 h7 (st:=st) i hi'
  have himms:=fun st=> den_imms hp hform hhi h8 h7 (st:=st) hg i hi'
  refine den_shut (hp.at 4 rfl) rfl rfl (by simp;rfl) ?_
  obtain⟨iop,idst,isrc,ioff,iimm⟩:=i
  simp only at hi'
  subst hi'
  simp only[Ins.cells,ofDs,List.map_cons,List.map_nil]at hoffs himms ⊢
  by_cases he:e=0
  rotate_left
  · simp[F27,hinfo,he,ofDs,lay]
  obtain⟨S,hS⟩:∃ S,S=s0 [.row [.d (.i .i64 iop),.d (.i .i64 idst),.d (.i .i64 isrc),.d (.i .i64 ioff),.d (.i .i64 iimm)],.row [.d (.i .i64 uform),.d (.i .i64 group),.d (.b dst),.d (.b src),.d (.b off),.d (.b imm)]] [] 0 0:=⟨_,rfl⟩
  obtain⟨nm,hnm⟩:∃ b,b=decide (iop=133∨iop=24):=⟨_,rfl⟩
  obtain⟨im,him⟩:∃ b,b=(decide (-2147483648≤iimm∧iimm < 2147483648) || (decide (iop=24) && decide (isrc=0))):=⟨_,rfl⟩
  obtain⟨b2,hb2⟩:∃ b,b= !(if dst then decide (0≤idst∧idst≤10) else decide (idst=0)):=⟨_,rfl⟩
  obtain⟨b3,hb3⟩:∃ b,b= !(if src then decide (0≤isrc∧isrc≤10) else true):=⟨_,rfl⟩
  obtain⟨b4,hb4⟩:∃ b,b= !(if nm then decide (isrc=0∨isrc=1) else if src then true else decide (isrc=0)):=⟨_,rfl⟩
  obtain⟨b5,hb5⟩:∃ b,b= !(if off then decide (-32768≤ioff∧ioff < 32768) else decide (ioff∈offsOf form hi r8 r7)):=⟨_,rfl⟩
  obtain⟨b6,hb6⟩:∃ b,b= !(if imm then im else decide (iimm∈immsOf iop form hi)):=⟨_,rfl⟩
  have hmay:OpD.may ⟨dst,src,off,imm,decide (iop=133∨iop=24),decide (iop=24),offsOf form hi r8 r7,immsOf iop form hi⟩ ⟨iop,idst,isrc,ioff,iimm⟩=(!b2 && !b3 && !b4 && !b5 && !b6):=by
    rw[hb2,hb3,hb4,hb5,hb6,hnm,him]
    simp only[Bool.not_not]
    rfl
  rw[hmay]
  have q0:∃ e',opsS pr (den pr) F27_r0 F27_r0 [(1,.ptr 0 0),(3,.ptr 1 0)] S=some (e',S)∧e'.get 1=some (.ptr 0 0)∧e'.get 3=some (.ptr 1 0)∧e'.get 5=some (.d (.b nm)):=by
    rw[hS,hnm]
    by_cases c1:iop=133 <;> simp[F27_r0,c1]
  have q1:∃ e',opsS pr (den pr) F27_r1 F27_r1 [(1,.ptr 0 0),(3,.ptr 1 0),(5,.d (.b nm))] S=some (e',S)∧e'.get 1=some (.ptr 0 0)∧e'.get 3=some (.ptr 1 0)∧e'.get 5=some (.d (.b nm))∧e'.get 6=some (.d (.b im)):=by
    rw[hS,him]
    by_cases c1: -2147483648≤iimm <;> by_cases c2:iimm < 2147483648 <;> by_cases c3:iop=24 <;> simp[F27_r1,c1,c2,c3]
  have q2:∃ e',opsS pr (den pr) F27_r2 F27_r2 [(1,.ptr 0 0),(3,.ptr 1 0),(5,.d (.b nm)),(6,.d (.b im))] S=some (e',S)∧e'.get 1=some (.ptr 0 0)∧e'.get 3=some (.ptr 1 0)∧e'.get 5=some (.d (.b nm))∧e'.get 6=some (.d (.b im))∧e'.get 42=some (.d (.b b2)):=by
    rw[hS,hb2]
    cases dst
    · simp[F27_r2]
    · by_cases c1:idst < 0
      · have c2:¬ 0≤idst:=by omega
        simp[F27_r2,c1,c2]
      · have c2:0≤idst:=by omega
        by_cases c3:10 < idst
        · have c4:¬ idst≤10:=by omega
          simp[F27_r2,c1,c2,c3,c4]
        · have c4:idst≤10:=by omega
          simp[F27_r2,c1,c2,c3,c4]
  have q3:∃ e',opsS pr (den pr) F27_r3 F27_r3 [(1,.ptr 0 0),(3,.ptr 1 0),(5,.d (.b nm)),(6,.d (.b im))] S=some (e',S)∧e'.get 1=some (.ptr 0 0)∧e'.get 3=some (.ptr 1 0)∧e'.get 5=some (.d (.b nm))∧e'.get 6=some (.d (.b im))∧e'.get 65=some (.d (.b b3)):=by
    rw[hS,hb3]
    cases src
    · simp[F27_r3]
    · by_cases c1:isrc < 0
      · have c2:¬ 0≤isrc:=by omega
        simp[F27_r3,c1,c2]
      · have c2:0≤isrc:=by omega
        by_cases c3:10 < isrc
        · have c4:¬ isrc≤10:=by omega
          simp[F27_r3,c1,c2,c3,c4]
        · have c4:isrc≤10:=by omega
          simp[F27_r3,c1,c2,c3,c4]
  have q4:∃ e',opsS pr (den pr) F27_r4 F27_r4 [(1,.ptr 0 0),(3,.ptr 1 0),(5,.d (.b nm)),(6,.d (.b im))] S=some (e',S)∧e'.get 1=some (.ptr 0 0)∧e'.get 3=some (.ptr 1 0)∧e'.get 6=some (.d (.b im))∧e'.get 78=some (.d (.b b4)):=by
    rw[hS,hb4]
    cases nm <;> cases src <;> by_cases c1:isrc=0 <;> by_cases c2:isrc=1 <;> simp[F27_r4,c1,c2]
  have q5:∃ e',opsS pr (den pr) F27_r5 F27_r5 [(1,.ptr 0 0),(3,.ptr 1 0),(6,.d (.b im))] S=some (e',S)∧e'.get 1=some (.ptr 0 0)∧e'.get 3=some (.ptr 1 0)∧e'.get 6=some (.d (.b im))∧e'.get 104=some (.d (.b b5)):=by
    rw[hS,hb5]
    cases off
    · simp[F27_r5,hoffs]
    · by_cases c1:ioff < -32768
      · have c2:¬ -32768≤ioff:=by omega
        simp[F27_r5,c1,c2]
      · have c2: -32768≤ioff:=by omega
        by_cases c3:32768≤ioff
        · have c4:¬ ioff < 32768:=by omega
          simp[F27_r5,c1,c2,c3,c4]
        · have c4:ioff < 32768:=by omega
          simp[F27_r5,c1,c2,c3,c4]
  have q6:∃ e',opsS pr (den pr) F27_r6 F27_r6 [(1,.ptr 0 0),(3,.ptr 1 0),(6,.d (.b im))] S=some (e',S)∧e'.get 127=some (.d (.b b6)):=by
    rw[hS,hb6]
    cases imm
    · simp[F27_r6,himms]
    · cases im <;> simp[F27_r6]
  obtain⟨e0,p0,p01,p03,p05⟩:=q0
  obtain⟨e1,p1,p11,p13,p15,p16⟩:=q1
  obtain⟨e2,p2,p21,p23,p25,p26,p2r⟩:=q2
  obtain⟨e3,p3,p31,p33,p35,p36,p3r⟩:=q3
  obtain⟨e4,p4,p41,p43,p46,p4r⟩:=q4
  obtain⟨e5,p5,p51,p53,p56,p5r⟩:=q5
  obtain⟨e6,p6,p6r⟩:=q6
  subst he
  cases b2
  rotate_left
  · simp[F27,hinfo,lay,ofDs,← hS,p0,p01,p03,p05,p1,p11,p13,p15,p16,p2,p21,p23,p25,p26,p2r]
  cases b3
  rotate_left
  · simp[F27,hinfo,lay,ofDs,← hS,p0,p01,p03,p05,p1,p11,p13,p15,p16,p2,p21,p23,p25,p26,p2r,p3,p31,p33,p35,p36,p3r]
  cases b4
  rotate_left
  · simp[F27,hinfo,lay,ofDs,← hS,p0,p01,p03,p05,p1,p11,p13,p15,p16,p2,p21,p23,p25,p26,p2r,p3,p31,p33,p35,p36,p3r,p4,p41,p43,p46,p4r]
  cases b5
  rotate_left
  · simp[F27,hinfo,lay,ofDs,← hS,p0,p01,p03,p05,p1,p11,p13,p15,p16,p2,p21,p23,p25,p26,p2r,p3,p31,p33,p35,p36,p3r,p4,p41,p43,p46,p4r,p5,p51,p53,p56,p5r]
  cases b6 <;> simp[F27,hinfo,lay,ofDs,← hS,p0,p01,p03,p05,p1,p11,p13,p15,p16,p2,p21,p23,p25,p26,p2r,p3,p31,p33,p35,p36,p3r,p4,p41,p43,p46,p4r,p5,p51,p53,p56,p5r,p6,p6r]
end
end Go.Sh
