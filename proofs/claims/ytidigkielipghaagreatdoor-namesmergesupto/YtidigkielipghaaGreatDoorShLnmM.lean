/- Part of the proof. -/
import Derived.Test.YtidigkielipghaaGreatDoorShLnmL
import Derived.Test.YtidigkielipghaaGreatDoorShFlaw15
import Derived.Test.YtidigkielipghaaGreatDoorShFlaw0
set_option linter.unusedVariables false
set_option linter.unusedSimpArgs false
set_option linter.unusedSectionVars false
namespace Go.Sh
def ncFns:List (Nat×SFn):= [(12,F12),(7,F7),(326,F326),(327,F327),(328,F328),(329,F329),(317,F317),(325,F325),(315,F315)]
@[simp] theorem toD_dsl {α:Type}(c:α→List D)(nz:Bool)(l:List α):toD (dsl c nz l)=some (.sl l.length nz (l.map c).flatten):=rfl
@[simp] theorem dsl_cs {α:Type}(c:α→List D)(nz:Bool)(l:List α):(dsl c nz l).cs= [dsl c nz l]:=rfl
def ObS.cp (o:ObS):ObS:={o with n1:=true,n2:=true,n3:=true,n4:=true,n5:=true}
def oneO (nm:Byt8)(g nz:Bool)(l:List Byt8):ObS:=⟨[⟨149,0,0,0,0⟩],[⟨nm,g,0,1⟩],[],l,[],true,true,false,nz,false⟩
section
variable {pr:Prog}(hq:Sub ncFns pr){st:St}
include hq
theorem den_num15 (x:Int):den pr 12 [.d (.i .i64 x)] st=some (.d (.i .i64 x),st):=den_shut (hq.at 0 rfl) rfl rfl (by simp;rfl) (by simp[F12])
theorem den_cpIns {nz:Bool}{is:List Ins}(hl:is.length * 40≤140737488355328):den pr 7 [dsl Ins.cells nz is] st=some (dsl Ins.cells true is,st):=by
  refine den_shut (hq.at 1 rfl) rfl rfl (by simp;rfl) ?_
  have hcp:=appV_copy insC (nz:=nz) (l:=is) (bytes:=40) (ts:= [0]) (bs:= []) (fl:=0) (tf:=0) (t:=0) rfl (by omega) (by omega) (by omega)
  simp[F7,fillV,reps,ofDs,hcp]
  rfl
theorem den_cpFns {nz:Bool}{is:List FnS}(hl:is.length * 40≤140737488355328):den pr 326 [dsl FnS.cells nz is] st=some (dsl FnS.cells true is,st):=by
  refine den_shut (hq.at 2 rfl) rfl rfl (by simp;rfl) ?_
  have hcp:=appV_copy FnS.c4 (nz:=nz) (l:=is) (bytes:=40) (ts:= [0]) (bs:= []) (fl:=0) (tf:=0) (t:=0) rfl (by omega) (by omega) (by omega)
  simp[F326,fillV,reps,ofDs,hcp]
  rfl
theorem den_cpTbs {nz:Bool}{is:List TbS}(hl:is.length * 48≤140737488355328):den pr 327 [dsl TbS.cells nz is] st=some (dsl TbS.cells true is,st):=by
  refine den_shut (hq.at 3 rfl) rfl rfl (by simp;rfl) ?_
  have hcp:=appV_copy TbS.c5 (nz:=nz) (l:=is) (bytes:=48) (ts:= [0]) (bs:= []) (fl:=0) (tf:=0) (t:=0) rfl (by omega) (by omega) (by omega)
  simp[F327,fillV,reps,ofDs,hcp]
  rfl
theorem den_cpTxs {nz:Bool}{is:List Byt8}(hl:is.length * 16≤140737488355328):den pr 328 [dsl txC nz is] st=some (dsl txC true is,st):=by
  refine den_shut (hq.at 4 rfl) rfl rfl (by simp;rfl) ?_
  have hcp:=appV_copy txC1 (nz:=nz) (l:=is) (bytes:=16) (ts:= [0]) (bs:= []) (fl:=0) (tf:=0) (t:=0) rfl (by omega) (by omega) (by omega)
  simp[F328,fillV,reps,ofDs,hcp]
  rfl
theorem den_cpRls {nz:Bool}{is:List RlS}(hl:is.length * 24≤140737488355328):den pr 329 [dsl RlS.cells nz is] st=some (dsl RlS.cells true is,st):=by
  refine den_shut (hq.at 5 rfl) rfl rfl (by simp;rfl) ?_
  have hcp:=appV_copy RlS.c3 (nz:=nz) (l:=is) (bytes:=24) (ts:= [0]) (bs:= []) (fl:=0) (tf:=0) (t:=0) rfl (by omega) (by omega) (by omega)
  simp[F329,fillV,reps,ofDs,hcp]
  rfl
theorem den_cpObj (o:ObS)(ho:o.ok):den pr 317 [.agg o.vs] st=some (.agg o.cp.vs,st):=by
  refine den_shut (hq.at 6 rfl) rfl rfl (by simp[o.close];rfl) ?_
  have h1:=fun st=> den_cpIns hq (st:=st) (nz:=o.n1) ho.tx
  have h2:=fun st=> den_cpFns hq (st:=st) (nz:=o.n2) ho.fn
  have h3:=fun st=> den_cpTbs hq (st:=st) (nz:=o.n3) ho.tb
  have h4:=fun st=> den_cpTxs hq (st:=st) (nz:=o.n4) ho.ex
  have h5:=fun st=> den_cpRls hq (st:=st) (nz:=o.n5) ho.rl
  simp[F317,ObS.vs,ObS.cp,h1,h2,h3,h4,h5,fillV,lay,ofDs,escs]
theorem den_one (nm:Byt8)(g nz:Bool)(l:List Byt8):den pr 325 [.d (.s nm),.d (.b g),dsl txC nz l] st=some (.agg (oneO nm g nz l).vs,st):=by
  refine den_shut (hq.at 7 rfl) rfl rfl (by simp;rfl) ?_
  simp[F325,ObS.vs,oneO,fillV,lay,ofDs,reps,toDs,toD,escs]
  exact⟨rfl,rfl,rfl,rfl⟩
end
open Classical in
noncomputable def chkF (pr:Prog) (o:ObS):Bool:=decide (∃ k:Int,∀ st,den pr 330 [.agg o.vs] st=some (.tup [.d (.i .i64 k),.d (.i .i64 0)],st))
open Classical in
theorem chkF_iff (pr:Prog)(o:ObS):chkF pr o=true↔∃ k:Int,∀ st,den pr 330 [.agg o.vs] st=some (.tup [.d (.i .i64 k),.d (.i .i64 0)],st):=by
  unfold chkF
  exact decide_eq_true_iff
theorem chkOk {pr:Prog}(hp:Sub objFns pr)(hq:Sub slFns pr)(hI:IsaOk pr)(o:ObS)(ho:o.ok)(hs:∀ s∈namesO o,s.length≤9223372036854775807):ChkOk pr (chkF pr) o:=by
  obtain⟨k,e,h1,h2⟩:=den_check hp hq hI o ho hs
  have hc:e=0↔chkF pr o=true:=by
    rw[chkF_iff]
    constructor
    · rintro rfl
      exact⟨k,h1⟩
    · rintro⟨k',h⟩
      have:=(h1 st0).symm.trans (h st0)
      simp at this
      exact this.2
  exact⟨⟨k,e,h1,hc⟩,fun h=> let x:=h2 (hc.2 h);⟨x.2.1,x.2.2.1,x.2.2.2⟩,hs⟩
structure AwkOk (pr:Prog):Prop where
  a:∀ st,den pr 330 [.agg (oneO [102] true true [[103]]).vs] st=some (.tup [.d (.i .i64 0),.d (.i .i64 0)],st)
  b:∀ st,den pr 330 [.agg (oneO [103] true false []).vs] st=some (.tup [.d (.i .i64 0),.d (.i .i64 0)],st)
  c:∀ st,den pr 330 [.agg (oneO [102] true false []).vs] st=some (.tup [.d (.i .i64 0),.d (.i .i64 0)],st)
def gA:Gth:= [([102],⟨[⟨[102],0,0⟩],[],false⟩),([103],⟨[⟨[103],1,0⟩],[],true⟩)]
def gB:Gth:= [([102],⟨[⟨[102],0,0⟩,⟨[102],1,0⟩],[],false⟩)]
theorem gA_eq:gathA [oneO [102] true true [[103]],oneO [103] true false []]=gA:=by rfl
theorem gB_eq:gathA [oneO [102] true false [],oneO [102] true false []]=gB:=by rfl
theorem mrgA {pr:Prog}(h:AwkOk pr):mrgR (chkF pr) [oneO [102] true true [[103]],oneO [103] true false []]=([⟨[102],0,0⟩,⟨[103],1,0⟩],[],[],0):=by
  have h1:chkF pr (oneO [102] true true [[103]])=true:=by rw[chkF_iff];exact⟨0,h.a⟩
  have h2:chkF pr (oneO [103] true false [])=true:=by rw[chkF_iff];exact⟨0,h.b⟩
  unfold mrgR
  rw[if_neg (by simp),if_pos (by simp[h1,h2]),gA_eq]
  have hs:srtS (keysN gA)= [[102],[103]]:=by
    unfold srtS
    rw[List.mergeSort_of_pairwise]
    · rfl
    · simp[gA,keysN]
      decide
  rw[hs]
  rfl
theorem mrgB {pr:Prog}(h:AwkOk pr):mrgR (chkF pr) [oneO [102] true false [],oneO [102] true false []]=([],[],[102],162):=by
  have h1:chkF pr (oneO [102] true false [])=true:=by rw[chkF_iff];exact⟨0,h.c⟩
  unfold mrgR
  rw[if_neg (by simp),if_pos (by simp[h1]),gB_eq]
  have hs:srtS (keysN gB)= [[102]]:=by
    unfold srtS
    rw[List.mergeSort_of_pairwise]
    · rfl
    · simp[gB,keysN]
  rw[hs]
  rfl
section
variable {pr:Prog}(hq:Sub ncFns pr)(hn:Sub nmFns pr)(hp:Sub objFns pr)(hc:Sub slFns pr)(hI:IsaOk pr)(hf:pr.fn 333=none)(hg:pr.prim 333=some (pSortedS 345))(hA:AwkOk pr){st:St}
include hq hn hp hc hI hf hg hA
theorem oneOk (nm:Byt8)(hnm:nm.length≤64)(g nz:Bool)(l:List Byt8)(hl:l.length≤64)(hl2:∀ x∈l,x.length≤64):ChkOk pr (chkF pr) (oneO nm g nz l):=by
  refine chkOk hp hc hI _ ⟨by simp[oneO],by simp[oneO],by simp[oneO],by simp[oneO];omega,by simp[oneO]⟩ fun s hs=> ?_
  simp[namesO,oneO]at hs
  rcases hs with rfl | hs
  · omega
  · have:=hl2 s hs
    omega
theorem den_awake15:den pr 315 [] st=some (.d (.b true),st):=by
  refine den_shut (hq.at 8 rfl) rfl rfl (by simp;rfl) ?_
  have k1:ChkOk pr (chkF pr) (oneO [102] true true [[103]]):=oneOk hq hn hp hc hI hf hg hA _ (by simp) _ _ _ (by simp) (by simp)
  have k2:ChkOk pr (chkF pr) (oneO [103] true false []):=oneOk hq hn hp hc hI hf hg hA _ (by simp) _ _ _ (by simp) (by simp)
  have k3:ChkOk pr (chkF pr) (oneO [102] true false []):=oneOk hq hn hp hc hI hf hg hA _ (by simp) _ _ _ (by simp) (by simp)
  have o1:=fun st=> den_one hq (st:=st) [102] true true [[103]]
  have o2:=fun st=> den_one hq (st:=st) [103] true false []
  have o3:=fun st=> den_one hq (st:=st) [102] true false []
  have m1:=fun st=> den_Merge hn (st:=st) hf hg (v:= .d (.sl 2 true ((oneO [102] true true [[103]]).cells++(oneO [103] true false []).cells))) (os:= [oneO [102] true true [[103]],oneO [103] true false []]) (chk:=chkF pr) (.of_sl (by simp[ObS.c5]) rfl (by simp)) (by simp) (by
    intro o ho
    simp at ho
    rcases ho with rfl | rfl
    · exact k1
    · exact k2)
  have m2:=fun st=> den_Merge hn (st:=st) hf hg (v:= .d (.sl 2 true ((oneO [102] true false []).cells++(oneO [102] true false []).cells))) (os:= [oneO [102] true false [],oneO [102] true false []]) (chk:=chkF pr) (.of_sl (by simp[ObS.c5]) rfl (by simp)) (by simp) (by
    intro o ho
    simp at ho
    subst ho
    exact k3)
  rw[mrgA hA]at m1
  rw[mrgB hA]at m2
  have hnum:=fun x st=> den_num15 hq (st:=st) x
  obtain⟨a0,a1,a2,a3,a4,ha,ha'⟩:∃ d0 d1 d2 d3 d4,(oneO [102] true true [[103]]).cells= [d0,d1,d2,d3,d4]∧(oneO [102] true true [[103]]).vs= [.d d0,.d d1,.d d2,.d d3,.d d4]:=⟨_,_,_,_,_,rfl,rfl⟩
  obtain⟨b0,b1,b2,b3,b4,hb,hb'⟩:∃ d0 d1 d2 d3 d4,(oneO [103] true false []).cells= [d0,d1,d2,d3,d4]∧(oneO [103] true false []).vs= [.d d0,.d d1,.d d2,.d d3,.d d4]:=⟨_,_,_,_,_,rfl,rfl⟩
  obtain⟨c0,c1,c2,c3,c4,hcc,hcc'⟩:∃ d0 d1 d2 d3 d4,(oneO [102] true false []).cells= [d0,d1,d2,d3,d4]∧(oneO [102] true false []).vs= [.d d0,.d d1,.d d2,.d d3,.d d4]:=⟨_,_,_,_,_,rfl,rfl⟩
  have e1:dsl txC true [[103]]= .d (.sl 1 true [.s [103]]):=rfl
  have e0:dsl txC false []= .d (.sl 0 false []):=rfl
  have q1:mrgV ([⟨[102],0,0⟩,⟨[103],1,0⟩],[],[],0)= .tup [.agg [.d (.sl 2 true [.s [102],.i .i64 0,.i .i64 0,.s [103],.i .i64 1,.i .i64 0]),.d (.sl 0 false [])],.d (.s []),.d (.i .i64 0)]:=rfl
  have q2:mrgV ([],[],[102],162)= .tup [.agg [.d (.sl 0 false []),.d (.sl 0 false [])],.d (.s [102]),.d (.i .i64 162)]:=rfl
  rw[ha']at o1
  rw[hb']at o2
  rw[hcc']at o3
  rw[ha,hb]at m1
  rw[hcc]at m2
  rw[e1]at o1
  rw[e0]at o2 o3
  rw[q1]at m1
  rw[q2]at m2
  clear ha ha' hb hb' hcc hcc'
  simp only[List.cons_append,List.nil_append]at m1 m2
  simp[F315,o1,o2,o3,m1,m2,hnum,fillV,lay,ofDs,reps,toDs,toD,iaddrV]
end
end Go.Sh
