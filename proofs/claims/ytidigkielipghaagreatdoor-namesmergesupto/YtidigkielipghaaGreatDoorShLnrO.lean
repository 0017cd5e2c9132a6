/- Part of the proof. -/
import Derived.Test.YtidigkielipghaaGreatDoorShLnrN
import Derived.Test.YtidigkielipghaaGreatDoorShFlaw0
import Derived.Test.YtidigkielipghaaGreatDoorShFlaw15
set_option linter.unusedVariables false
set_option linter.unusedSimpArgs false
set_option linter.unusedSectionVars false
namespace Go.Sh
def smFns:List (Nat×SFn):= [(9,F9),(383,F383),(321,F321),(167,F167),(384,F384),(375,F375),(367,F367)]
section
variable {pr:Prog}(hp:Sub smFns pr){st:St}
include hp
theorem den_smI {F:List Ins}{a b:Bool}(hl:F.length≤140737488355328){v w:V}(hv:close1 v=some (dsl Ins.cells a F))(hw:close1 w=some (dsl Ins.cells b F)):den pr 9 [v,w] st=some (.d (.b true),st):=by
  refine den_shut (hp.at 0 rfl) rfl rfl (by simp only[closeA,hv,hw];rfl) ?_
  have hu:=dsl_d insC a F
  have hz:=dsl_d insC b F
  have hlu:=hu.len
  have hlz:=hz.len
  rw[List.length_map]at hlu hlz
  obtain⟨x,hx⟩:∃ x,x=dsl Ins.cells a F:=⟨_,rfl⟩
  obtain⟨y,hy⟩:∃ y,y=dsl Ins.cells b F:=⟨_,rfl⟩
  rw[← hx]at hu hlu ⊢
  rw[← hy]at hz hlz ⊢
  simp[F9,hlu,hlz]
  generalize hL:cden pr (.loop _ _ F9_b0) _ _=q
  obtain⟨r,rfl,e,s,rfl⟩:∃ r,q=some r∧∃ e s,r=(.exit 0,e,s):=by
    rw[← hL]
    clear hL
    refine loop_j (fun n e s=> ∃ j,n=F.length - j∧j≤F.length∧e= [(0,x),(1,y),(5,.d (.i .i64 (j:Nat)))]∧s=s0 [] [] 0 0) ?_ (n:=F.length) ⟨0,by omega,by omega,by simp,by simp⟩
    rintro n e s ⟨j,rfl,hj,rfl,rfl⟩
    rcases Nat.lt_or_ge j F.length with h | h
    · obtain⟨z,hz'⟩:∃ z,F[j]? =some z:=⟨_,List.getElem?_eq_getElem h⟩
      have hn1:IntKind.wrap .i64 ((j:Int)+1)=j+1:=wrap_i64 (by omega) (by omega)
      have hia:=hu.iaddr (i:=(j:Int)) (k:= .i64) (by omega) (by simp;omega)
      have hib:=hz.iaddr (i:=(j:Int)) (k:= .i64) (by omega) (by simp;omega)
      simp only[Int.toNat_natCast]at hia hib
      have hla:∀ st,loadV 5 true st (elP 5 x j 0)=some (.agg (ofDs z.cells)):=fun st=> by
        rw[hu.load (el:=z.cells) (by simp[hz']) (by omega) (by omega)]
        rfl
      have hlb:∀ st,loadV 5 true st (elP 5 y j 0)=some (.agg (ofDs z.cells)):=fun st=> by
        rw[hz.load (el:=z.cells) (by simp[hz']) (by omega) (by omega)]
        rfl
      have hev:eqV [9,0,0,0,0,0] (.agg (ofDs z.cells)) (.agg (ofDs z.cells))=some true:=by
        obtain⟨a,b,c,d,e⟩:=z
        simp[eqV,Ins.cells,ofDs,toDs,toD,eqDs,eqK]
      have hlt:F.length - (j+1) < F.length - j:=by omega
      simp[F9_b0,h,hlu,hlz,hia,hib,hla,hlb,hev,hn1,hu.esc,hz.esc]
      exact⟨_,hlt,j+1,rfl,h,by simp⟩
    · obtain rfl:j=F.length:=by omega
      simp[F9_b0,hlu,hlz,hu.esc,hz.esc]
  simp
theorem den_smF {F:List FnS}{a b:Bool}(hl:F.length≤140737488355328){v w:V}(hv:close1 v=some (dsl FnS.cells a F))(hw:close1 w=some (dsl FnS.cells b F)):den pr 383 [v,w] st=some (.d (.b true),st):=by
  refine den_shut (hp.at 1 rfl) rfl rfl (by simp only[closeA,hv,hw];rfl) ?_
  have hu:=dsl_d FnS.c4 a F
  have hz:=dsl_d FnS.c4 b F
  have hlu:=hu.len
  have hlz:=hz.len
  rw[List.length_map]at hlu hlz
  obtain⟨x,hx⟩:∃ x,x=dsl FnS.cells a F:=⟨_,rfl⟩
  obtain⟨y,hy⟩:∃ y,y=dsl FnS.cells b F:=⟨_,rfl⟩
  rw[← hx]at hu hlu ⊢
  rw[← hy]at hz hlz ⊢
  simp[F383,hlu,hlz]
  generalize hL:cden pr (.loop _ _ F383_b0) _ _=q
  obtain⟨r,rfl,e,s,rfl⟩:∃ r,q=some r∧∃ e s,r=(.exit 0,e,s):=by
    rw[← hL]
    clear hL
    refine loop_j (fun n e s=> ∃ j,n=F.length - j∧j≤F.length∧e= [(0,x),(1,y),(5,.d (.i .i64 (j:Nat)))]∧s=s0 [] [] 0 0) ?_ (n:=F.length) ⟨0,by omega,by omega,by simp,by simp⟩
    rintro n e s ⟨j,rfl,hj,rfl,rfl⟩
    rcases Nat.lt_or_ge j F.length with h | h
    · obtain⟨z,hz'⟩:∃ z,F[j]? =some z:=⟨_,List.getElem?_eq_getElem h⟩
      have hn1:IntKind.wrap .i64 ((j:Int)+1)=j+1:=wrap_i64 (by omega) (by omega)
      have hia:=hu.iaddr (i:=(j:Int)) (k:= .i64) (by omega) (by simp;omega)
      have hib:=hz.iaddr (i:=(j:Int)) (k:= .i64) (by omega) (by simp;omega)
      simp only[Int.toNat_natCast]at hia hib
      have hla:∀ st,loadV 4 true st (elP 4 x j 0)=some (.agg (ofDs z.cells)):=fun st=> by
        rw[hu.load (el:=z.cells) (by simp[hz']) (by omega) (by omega)]
        rfl
      have hlb:∀ st,loadV 4 true st (elP 4 y j 0)=some (.agg (ofDs z.cells)):=fun st=> by
        rw[hz.load (el:=z.cells) (by simp[hz']) (by omega) (by omega)]
        rfl
      have hev:eqV [9,2,1,0,0] (.agg (ofDs z.cells)) (.agg (ofDs z.cells))=some true:=by
        obtain⟨a,b,c,d⟩:=z
        simp[eqV,FnS.cells,ofDs,toDs,toD,eqDs,eqK]
      have hlt:F.length - (j+1) < F.length - j:=by omega
      simp[F383_b0,h,hlu,hlz,hia,hib,hla,hlb,hev,hn1,hu.esc,hz.esc]
      exact⟨_,hlt,j+1,rfl,h,by simp⟩
    · obtain rfl:j=F.length:=by omega
      simp[F383_b0,hlu,hlz,hu.esc,hz.esc]
  simp
theorem den_smT {F:List TbS}{a b:Bool}(hl:F.length≤140737488355328){v w:V}(hv:close1 v=some (dsl TbS.cells a F))(hw:close1 w=some (dsl TbS.cells b F)):den pr 321 [v,w] st=some (.d (.b true),st):=by
  refine den_shut (hp.at 2 rfl) rfl rfl (by simp only[closeA,hv,hw];rfl) ?_
  have hu:=dsl_d TbS.c5 a F
  have hz:=dsl_d TbS.c5 b F
  have hlu:=hu.len
  have hlz:=hz.len
  rw[List.length_map]at hlu hlz
  obtain⟨x,hx⟩:∃ x,x=dsl TbS.cells a F:=⟨_,rfl⟩
  obtain⟨y,hy⟩:∃ y,y=dsl TbS.cells b F:=⟨_,rfl⟩
  rw[← hx]at hu hlu ⊢
  rw[← hy]at hz hlz ⊢
  simp[F321,hlu,hlz]
  generalize hL:cden pr (.loop _ _ F321_b0) _ _=q
  obtain⟨r,rfl,e,s,rfl⟩:∃ r,q=some r∧∃ e s,r=(.exit 0,e,s):=by
    rw[← hL]
    clear hL
    refine loop_j (fun n e s=> ∃ j,n=F.length - j∧j≤F.length∧e= [(0,x),(1,y),(5,.d (.i .i64 (j:Nat)))]∧s=s0 [] [] 0 0) ?_ (n:=F.length) ⟨0,by omega,by omega,by simp,by simp⟩
    rintro n e s ⟨j,rfl,hj,rfl,rfl⟩
    rcases Nat.lt_or_ge j F.length with h | h
    · obtain⟨z,hz'⟩:∃ z,F[j]? =some z:=⟨_,List.getElem?_eq_getElem h⟩
      have hn1:IntKind.wrap .i64 ((j:Int)+1)=j+1:=wrap_i64 (by omega) (by omega)
      have hia:=hu.iaddr (i:=(j:Int)) (k:= .i64) (by omega) (by simp;omega)
      have hib:=hz.iaddr (i:=(j:Int)) (k:= .i64) (by omega) (by simp;omega)
      simp only[Int.toNat_natCast]at hia hib
      have hla:∀ st,loadV 5 true st (elP 5 x j 0)=some (.agg (ofDs z.cells)):=fun st=> by
        rw[hu.load (el:=z.cells) (by simp[hz']) (by omega) (by omega)]
        rfl
      have hlb:∀ st,loadV 5 true st (elP 5 y j 0)=some (.agg (ofDs z.cells)):=fun st=> by
        rw[hz.load (el:=z.cells) (by simp[hz']) (by omega) (by omega)]
        rfl
      have hev:eqV [9,2,0,0,0,0] (.agg (ofDs z.cells)) (.agg (ofDs z.cells))=some true:=by
        obtain⟨a,b,c,d,e⟩:=z
        simp[eqV,TbS.cells,ofDs,toDs,toD,eqDs,eqK]
      have hlt:F.length - (j+1) < F.length - j:=by omega
      simp[F321_b0,h,hlu,hlz,hia,hib,hla,hlb,hev,hn1,hu.esc,hz.esc]
      exact⟨_,hlt,j+1,rfl,h,by simp⟩
    · obtain rfl:j=F.length:=by omega
      simp[F321_b0,hlu,hlz,hu.esc,hz.esc]
  simp
theorem den_smX {F:List Byt8}{a b:Bool}(hl:F.length≤140737488355328){v w:V}(hv:close1 v=some (dsl txC a F))(hw:close1 w=some (dsl txC b F)):den pr 167 [v,w] st=some (.d (.b true),st):=by
  refine den_shut (hp.at 3 rfl) rfl rfl (by simp only[closeA,hv,hw];rfl) ?_
  have hu:=dsl_d txC1 a F
  have hz:=dsl_d txC1 b F
  have hlu:=hu.len
  have hlz:=hz.len
  rw[List.length_map]at hlu hlz
  obtain⟨x,hx⟩:∃ x,x=dsl txC a F:=⟨_,rfl⟩
  obtain⟨y,hy⟩:∃ y,y=dsl txC b F:=⟨_,rfl⟩
  rw[← hx]at hu hlu ⊢
  rw[← hy]at hz hlz ⊢
  simp[F167,hlu,hlz]
  generalize hL:cden pr (.loop _ _ F167_b0) _ _=q
  obtain⟨r,rfl,e,s,rfl⟩:∃ r,q=some r∧∃ e s,r=(.exit 0,e,s):=by
    rw[← hL]
    clear hL
    refine loop_j (fun n e s=> ∃ j,n=F.length - j∧j≤F.length∧e= [(0,x),(1,y),(5,.d (.i .i64 (j:Nat)))]∧s=s0 [] [] 0 0) ?_ (n:=F.length) ⟨0,by omega,by omega,by simp,by simp⟩
    rintro n e s ⟨j,rfl,hj,rfl,rfl⟩
    rcases Nat.lt_or_ge j F.length with h | h
    · obtain⟨z,hz'⟩:∃ z,F[j]? =some z:=⟨_,List.getElem?_eq_getElem h⟩
      have hn1:IntKind.wrap .i64 ((j:Int)+1)=j+1:=wrap_i64 (by omega) (by omega)
      have hia:=hu.iaddr (i:=(j:Int)) (k:= .i64) (by omega) (by simp;omega)
      have hib:=hz.iaddr (i:=(j:Int)) (k:= .i64) (by omega) (by simp;omega)
      simp only[Int.toNat_natCast]at hia hib
      have hla:∀ st,loadV 1 false st (elP 1 x j 0)=some (.d (.s z)):=fun st=> by
        rw[hu.load (el:=txC z) (by simp[hz']) (by omega) (by omega)]
        rfl
      have hlb:∀ st,loadV 1 false st (elP 1 y j 0)=some (.d (.s z)):=fun st=> by
        rw[hz.load (el:=txC z) (by simp[hz']) (by omega) (by omega)]
        rfl
      have hlt:F.length - (j+1) < F.length - j:=by omega
      simp[F167_b0,h,hlu,hlz,hia,hib,hla,hlb,hn1,hu.esc,hz.esc]
      exact⟨_,hlt,j+1,rfl,h,by simp⟩
    · obtain rfl:j=F.length:=by omega
      simp[F167_b0,hlu,hlz,hu.esc,hz.esc]
  simp
theorem den_smR {F:List RlS}{a b:Bool}(hl:F.length≤140737488355328){v w:V}(hv:close1 v=some (dsl RlS.cells a F))(hw:close1 w=some (dsl RlS.cells b F)):den pr 384 [v,w] st=some (.d (.b true),st):=by
  refine den_shut (hp.at 4 rfl) rfl rfl (by simp only[closeA,hv,hw];rfl) ?_
  have hu:=dsl_d RlS.c3 a F
  have hz:=dsl_d RlS.c3 b F
  have hlu:=hu.len
  have hlz:=hz.len
  rw[List.length_map]at hlu hlz
  obtain⟨x,hx⟩:∃ x,x=dsl RlS.cells a F:=⟨_,rfl⟩
  obtain⟨y,hy⟩:∃ y,y=dsl RlS.cells b F:=⟨_,rfl⟩
  rw[← hx]at hu hlu ⊢
  rw[← hy]at hz hlz ⊢
  simp[F384,hlu,hlz]
  generalize hL:cden pr (.loop _ _ F384_b0) _ _=q
  obtain⟨r,rfl,e,s,rfl⟩:∃ r,q=some r∧∃ e s,r=(.exit 0,e,s):=by
    rw[← hL]
    clear hL
    refine loop_j (fun n e s=> ∃ j,n=F.length - j∧j≤F.length∧e= [(0,x),(1,y),(5,.d (.i .i64 (j:Nat)))]∧s=s0 [] [] 0 0) ?_ (n:=F.length) ⟨0,by omega,by omega,by simp,by simp⟩
    rintro n e s ⟨j,rfl,hj,rfl,rfl⟩
    rcases Nat.lt_or_ge j F.length with h | h
    · obtain⟨z,hz'⟩:∃ z,F[j]? =some z:=⟨_,List.getElem?_eq_getElem h⟩
      have hn1:IntKind.wrap .i64 ((j:Int)+1)=j+1:=wrap_i64 (by omega) (by omega)
      have hia:=hu.iaddr (i:=(j:Int)) (k:= .i64) (by omega) (by simp;omega)
      have hib:=hz.iaddr (i:=(j:Int)) (k:= .i64) (by omega) (by simp;omega)
      simp only[Int.toNat_natCast]at hia hib
      have hla:∀ st,loadV 3 true st (elP 3 x j 0)=some (.agg (ofDs z.cells)):=fun st=> by
        rw[hu.load (el:=z.cells) (by simp[hz']) (by omega) (by omega)]
        rfl
      have hlb:∀ st,loadV 3 true st (elP 3 y j 0)=some (.agg (ofDs z.cells)):=fun st=> by
        rw[hz.load (el:=z.cells) (by simp[hz']) (by omega) (by omega)]
        rfl
      have hev:eqV [9,0,0,0] (.agg (ofDs z.cells)) (.agg (ofDs z.cells))=some true:=by
        obtain⟨a,b,c⟩:=z
        simp[eqV,RlS.cells,ofDs,toDs,toD,eqDs,eqK]
      have hlt:F.length - (j+1) < F.length - j:=by omega
      simp[F384_b0,h,hlu,hlz,hia,hib,hla,hlb,hev,hn1,hu.esc,hz.esc]
      exact⟨_,hlt,j+1,rfl,h,by simp⟩
    · obtain rfl:j=F.length:=by omega
      simp[F384_b0,hlu,hlz,hu.esc,hz.esc]
  simp
theorem den_smO (o:ObS)(ho:o.ok):den pr 375 [.agg o.cp.vs,.agg o.vs] st=some (.d (.b true),st):=by
  refine den_shut (hp.at 5 rfl) rfl rfl (by simp[closeA,close1,ObS.close];rfl) ?_
  have b0:=ho.tx
  have b1:=ho.fn
  have b2:=ho.tb
  have b3:=ho.ex
  have b4:=ho.rl
  have h0:=fun st=> den_smI hp (st:=st) (F:=o.tx) (a:=true) (b:=o.n1) (v:=dsl Ins.cells true o.tx) (w:=dsl Ins.cells o.n1 o.tx) (by omega) rfl rfl
  have h1:=fun st=> den_smF hp (st:=st) (F:=o.fn) (a:=true) (b:=o.n2) (v:=dsl FnS.cells true o.fn) (w:=dsl FnS.cells o.n2 o.fn) (by omega) rfl rfl
  have h2:=fun st=> den_smT hp (st:=st) (F:=o.tb) (a:=true) (b:=o.n3) (v:=dsl TbS.cells true o.tb) (w:=dsl TbS.cells o.n3 o.tb) (by omega) rfl rfl
  have h3:=fun st=> den_smX hp (st:=st) (F:=o.ex) (a:=true) (b:=o.n4) (v:=dsl txC true o.ex) (w:=dsl txC o.n4 o.ex) (by omega) rfl rfl
  have h4:=fun st=> den_smR hp (st:=st) (F:=o.rl) (a:=true) (b:=o.n5) (v:=dsl RlS.cells true o.rl) (w:=dsl RlS.cells o.n5 o.rl) (by omega) rfl rfl
  simp only[ObS.vs,ObS.cp]
  simp[F375,h0,h1,h2,h3,h4]
theorem den_smA {os:List ObS}{a b:Bool}(hl:os.length≤140737488355328)(ho:∀ o∈os,o.ok){v w:V}(hv:close1 v=some (dsl ObS.cells a (os.map ObS.cp)))(hw:close1 w=some (dsl ObS.cells b os)):den pr 367 [v,w] st=some (.d (.b true),st):=by
  refine den_shut (hp.at 6 rfl) rfl rfl (by simp only[closeA,hv,hw];rfl) ?_
  have hu:=dsl_d ObS.c5 a (os.map ObS.cp)
  have hz:=dsl_d ObS.c5 b os
  have hlu:=hu.len
  have hlz:=hz.len
  rw[List.length_map,List.length_map]at hlu
  rw[List.length_map]at hlz
  obtain⟨x,hx⟩:∃ x,x=dsl ObS.cells a (os.map ObS.cp):=⟨_,rfl⟩
  obtain⟨y,hy⟩:∃ y,y=dsl ObS.cells b os:=⟨_,rfl⟩
  rw[← hx]at hu hlu ⊢
  rw[← hy]at hz hlz ⊢
  simp[F367,hlu,hlz]
  generalize hL:cden pr (.loop _ _ F367_b0) _ _=q
  obtain⟨r,rfl,e,s,rfl⟩:∃ r,q=some r∧∃ e s,r=(.exit 0,e,s):=by
    rw[← hL]
    clear hL
    refine loop_j (fun n e s=> ∃ j,n=os.length - j∧j≤os.length∧e= [(0,x),(1,y),(5,.d (.i .i64 (j:Nat)))]∧s=s0 [] [] 0 0) ?_ (n:=os.length) ⟨0,by omega,by omega,by simp,by simp⟩
    rintro n e s ⟨j,rfl,hj,rfl,rfl⟩
    rcases Nat.lt_or_ge j os.length with h | h
    · obtain⟨z,hz'⟩:∃ z,os[j]? =some z:=⟨_,List.getElem?_eq_getElem h⟩
      have hn1:IntKind.wrap .i64 ((j:Int)+1)=j+1:=wrap_i64 (by omega) (by omega)
      have hia:=hu.iaddr (i:=(j:Int)) (k:= .i64) (by omega) (by simp;omega)
      have hib:=hz.iaddr (i:=(j:Int)) (k:= .i64) (by omega) (by simp;omega)
      simp only[Int.toNat_natCast]at hia hib
      have hla:∀ st,loadV 5 true st (elP 5 x j 0)=some (.agg z.cp.vs):=fun st=> by
        rw[hu.load (el:=z.cp.cells) (by simp[hz']) (by omega) (by omega)]
        rfl
      have hlb:∀ st,loadV 5 true st (elP 5 y j 0)=some (.agg z.vs):=fun st=> by
        rw[hz.load (el:=z.cells) (by simp[hz']) (by omega) (by omega)]
        rfl
      have hsm:=fun st=> den_smO hp (st:=st) z (ho z (List.mem_of_getElem? hz'))
      obtain⟨w1,hw1⟩:∃ w1,w1=V.agg z.cp.vs:=⟨_,rfl⟩
      obtain⟨w2,hw2⟩:∃ w2,w2=V.agg z.vs:=⟨_,rfl⟩
      have ho1:w1.ok1=true:=by rw[hw1];rfl
      have ho2:w2.ok1=true:=by rw[hw2];rfl
      rw[← hw1]at hla hsm
      rw[← hw2]at hlb hsm
      have hlt:os.length - (j+1) < os.length - j:=by omega
      simp[F367_b0,h,hlu,hlz,hia,hib,hla,hlb,hsm,ho1,ho2,hn1,hu.esc,hz.esc]
      exact⟨_,hlt,j+1,rfl,h,by simp⟩
    · obtain rfl:j=os.length:=by omega
      simp[F367_b0,hlu,hlz,hu.esc,hz.esc]
  simp
end
end Go.Sh
