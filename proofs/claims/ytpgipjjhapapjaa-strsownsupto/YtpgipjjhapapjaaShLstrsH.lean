/- Part of the proof. -/
import Derived.Test.YtpgipjjhapapjaaShLstrsG
set_option linter.unusedVariables false
set_option linter.unusedSimpArgs false
namespace Go.Sh
section
variable {pr:Prog}(hr:Sub ref8Fns pr){st:St}
include hr
theorem den_num8 (x:Int):den pr 12 [.d (.i .i64 x)] st=some (.d (.i .i64 x),st):=by
  refine den_shut (hr.at 8 rfl) rfl rfl (by simp;rfl) ?_
  simp[F12]
theorem den_copyB8 {nz:Bool}{L:List UInt8}(hl:L.length≤140737488355328):den pr 35 [bsl nz L] st=some (bsl true L,st):=by
  refine den_shut (hr.at 7 rfl) rfl rfl (by simp;rfl) ?_
  simp[F35,fillV,reps,ofDs,appV,byteCells_len,hl]
  simp[bsl]
theorem den_sameT {nz nz':Bool}{a b:List Nm}(hl:a.length≤1099511627776):den pr 167 [.d (.sl a.length nz (a.map .s)),.d (.sl b.length nz' (b.map .s))] st=some (.d (.b (decide (a=b))),st):=by
  refine den_shut (hr.at 6 rfl) rfl rfl (by simp;rfl) ?_
  by_cases hlen:a.length=b.length
  rotate_left
  · have hne:a≠b:=fun e=> hlen (by rw[e])
    have h1:decide ((a.length:Int)=b.length)=false:=decide_eq_false (by omega)
    simp[F167,h1,hne]
  simp[F167,hlen]
  generalize hL:cden pr (.loop _ _ _) _ _=o
  obtain⟨A,hA⟩:∃ A:V,A= .d (.sl a.length nz (a.map .s)):=⟨_,rfl⟩
  obtain⟨B,hB⟩:∃ B:V,B= .d (.sl b.length nz' (b.map .s)):=⟨_,rfl⟩
  have hAl:lenV A=some b.length:=by rw[hA,← hlen];rfl
  obtain⟨J2,hJ2⟩:∃ J2:Out→Prop,∀ r,J2 r↔((∃ e,r=(.exit 0,e,s0 [] [] 0 0)∧a=b)∨(∃ e,r=(.ret,e,s0 [] [] 0 0)∧e.get 4=some (.d (.b false))∧a≠b)):=⟨_,fun _=> Iff.rfl⟩
  have key:∃ r,o=some r∧J2 r:=by
    rw[← hL,← hB]
    rw[hlen]at hA
    rw[← hA]
    obtain⟨J,hJ⟩:∃ J:Nat→Env→St→Prop,∀ n e z,J n e z↔∃ i:Nat,i≤b.length∧n=b.length - i∧e= [(0,A),(1,B),(5,.d (.i .i64 (i:Nat)))]∧z=s0 [] [] 0 0∧a.take i=b.take i:=⟨_,fun _ _ _=> Iff.rfl⟩
    refine loop_j J ?_ (n:=b.length) ((hJ _ _ _).2 ⟨0,Nat.zero_le _,rfl,by simp,rfl,by simp⟩)
    intro n e z h
    obtain⟨i,hi,rfl,rfl,rfl,hc⟩:=(hJ _ _ _).1 h
    rcases Nat.lt_or_ge i b.length with hlt | hge2
    · obtain⟨x,hx⟩:∃ x,a[i]? =some x:=⟨_,List.getElem?_eq_getElem (by omega)⟩
      obtain⟨y,hy⟩:∃ y,b[i]? =some y:=⟨_,List.getElem?_eq_getElem hlt⟩
      have w1:IntKind.wrap .i64 ((i:Int)+1)=i+1:=wrap_i64 (by omega) (by omega)
      obtain⟨g1,g2⟩:=names_get (nz:=nz) hx (k:= .i64)
      rw[hlen,← hA]at g1
      obtain⟨g3,g4⟩:=names_get (nz:=nz') hy (k:= .i64)
      rw[← hB]at g3
      by_cases hxy:x=y
      · have hxb:(x==y)=true:=by simpa using hxy
        simp[F167_b0,hAl,hlt,g1,g2,g3,g4,hxb,w1]
        refine⟨b.length - (i+1),by omega,(hJ _ _ _).2 ⟨i+1,by omega,rfl,rfl,rfl,?_⟩⟩
        rw[take_snoc hx,take_snoc hy,hc,hxy]
      · have hxb:(x==y)=false:=by simpa using hxy
        simp[F167_b0,hAl,hlt,g1,g2,g3,g4,hxb,w1]
        refine(hJ2 _).2 (.inr ⟨_,rfl,by simp,fun e=> ?_⟩)
        rw[e]at hx
        rw[hx]at hy
        exact hxy (Option.some.inj hy)
    · have:i=b.length:=by omega
      subst this
      simp[F167_b0,hAl]
      refine(hJ2 _).2 (.inl ⟨_,rfl,?_⟩)
      rw[List.take_length,← hlen,List.take_length]at hc
      exact hc
  obtain⟨r,rfl,key⟩:=key
  rcases(hJ2 _).1 key with⟨e,rfl,hc⟩ | ⟨e,rfl,e4,hc⟩
  · simp[hc]
  · simp[e4,hc]
theorem den_refAt {nz:Bool}{ns:List Nm}(hb:endAt 1 ns≤1099511627776)(x:Int):
    den pr 165 [refT nz ns,.d (.i .i64 x)] st=some (.tup [.d (.s (if x=0 then []else(atI x ns).getD [])),.d (.i .i64 (if x=0∨(atI x ns).isSome then 0 else 81))],st):=by
  have hge:=endAt_ge (a:=1) (ns:=ns)
  refine den_shut (as:= [refT nz ns,.d (.i .i64 x)]) (hr.at 3 rfl) rfl rfl (by simp[refT]) ?_
  by_cases h0:x=0
  · simp[F165,refT,h0]
  have hat:∀ p:Nat,x=p→atI x ns=nmAt p 1 ns:=by
    rintro p rfl
    unfold atI
    rw[if_neg (by omega),Int.toNat_natCast]
  simp[F165,refT,h0]
  generalize hL:cden pr (.loop _ _ _) _ _=o
  obtain⟨T,hT⟩:∃ T:V,T= .d (.sl ns.length nz (ns.map .s)):=⟨_,rfl⟩
  have hTl:lenV T=some ns.length:=by rw[hT];rfl
  obtain⟨J2,hJ2⟩:∃ J2:Out→Prop,∀ r,J2 r↔((∃ e,r=(.exit 0,e,s0 [.row [T]] [] 0 0)∧atI x ns=none)∨(∃ e y,r=(.ret,e,s0 [.row [T]] [] 0 0)∧e.get 4=some (.d (.s y))∧e.get 5=some (.d (.i .i64 0))∧atI x ns=some y)):=⟨_,fun _=> Iff.rfl⟩
  have key:∃ r,o=some r∧J2 r:=by
    rw[← hL,← hT]
    obtain⟨J,hJ⟩:∃ J:Nat→Env→St→Prop,∀ n e z,J n e z↔∃ i:Nat,i≤ns.length∧n=ns.length - i∧e= [(1,.d (.i .i64 x)),(2,.ptr 0 0),(6,.d (.i .i64 (endAt 1 (ns.take i):Nat))),(7,.d (.i .i64 (i:Nat)))]∧z=s0 [.row [T]] [] 0 0∧(∀ p:Nat,x=p→nmAt p 1 ns=nmAt p (endAt 1 (ns.take i)) (ns.drop i)):=⟨_,fun _ _ _=> Iff.rfl⟩
    refine loop_j J ?_ (n:=ns.length) ((hJ _ _ _).2 ⟨0,Nat.zero_le _,rfl,by simp[endAt],rfl,fun p _=> by simp[endAt]⟩)
    intro n e z h
    obtain⟨i,hi,rfl,rfl,rfl,hc⟩:=(hJ _ _ _).1 h
    rcases Nat.lt_or_ge i ns.length with hlt | hge2
    · obtain⟨y,hy⟩:∃ y,ns[i]? =some y:=⟨_,List.getElem?_eq_getElem hlt⟩
      have w1:IntKind.wrap .i64 ((i:Int)+1)=i+1:=wrap_i64 (by omega) (by omega)
      obtain⟨g1,g2⟩:=names_get (nz:=nz) hy (k:= .i64)
      rw[← hT]at g1
      have hm:=endAt_mono (a:=1) (ns:=ns) (i:=i+1)
      have he:endAt 1 (ns.take (i+1))=endAt 1 (ns.take i)+y.length+1:=by rw[take_snoc hy,endAt_snoc]
      rw[drop_cons hy]at hc
      simp only[nmAt]at hc
      obtain⟨E,hE⟩:∃ E,E=endAt 1 (ns.take i):=⟨_,rfl⟩
      rw[← hE]at he hc
      have w2:IntKind.wrap .i64 ((E:Int)+y.length)=E+y.length:=wrap_i64 (by omega) (by omega)
      have w3:IntKind.wrap .i64 ((E:Int)+y.length+1)=E+y.length+1:=wrap_i64 (by omega) (by omega)
      by_cases hxe:(E:Int)=x
      · have hc:=hc E hxe.symm
        rw[if_pos rfl]at hc
        simp[F165_b0,hTl,hlt,g1,g2,hxe,← hE]
        exact(hJ2 _).2 (.inr ⟨_,y,rfl,by simp,by simp,(hat E hxe.symm).trans hc⟩)
      · simp[F165_b0,hTl,hlt,g1,g2,hxe,← hE,w1,w2,w3]
        refine⟨ns.length - (i+1),by omega,(hJ _ _ _).2 ⟨i+1,by omega,rfl,?_,rfl,fun p hp=> ?_⟩⟩
        · simp[he]
        · have hc:=hc p hp
          rw[if_neg (by omega)]at hc
          rw[he]
          exact hc
    · have:i=ns.length:=by omega
      subst this
      simp[F165_b0,hTl]
      refine(hJ2 _).2 (.inl ⟨_,rfl,?_⟩)
      by_cases hneg:x < 0
      · unfold atI
        rw[if_pos hneg]
      · have hx:x=(x.toNat:Int):=by omega
        rw[hat _ hx,hc _ hx,List.drop_length]
        rfl
  obtain⟨r,rfl,key⟩:=key
  rcases(hJ2 _).1 key with⟨e,rfl,hc⟩ | ⟨e,y,rfl,e4,e5,hc⟩
  · simp[hc]
  · simp[e4,e5,hc]
theorem den_refBytes {nz:Bool}{ns:List Nm}(hb:endAt 1 ns≤1099511627776):den pr 168 [refT nz ns] st=some (bsl true (tabB ns),st):=by
  have hge:=endAt_ge (a:=1) (ns:=ns)
  refine den_shut (as:= [refT nz ns]) (hr.at 4 rfl) rfl rfl (by simp[refT]) ?_
  simp[F168,refT,fillV,lay,reps,ofDs]
  generalize hL:cden pr (.loop _ _ _) _ _=o
  obtain⟨T,hT⟩:∃ T:V,T= .d (.sl ns.length nz (ns.map .s)):=⟨_,rfl⟩
  have hTl:lenV T=some ns.length:=by rw[hT];rfl
  obtain⟨r,rfl,hQ⟩:∃ r,o=some r∧∃ e s,r=(.exit 0,e,s)∧e.get 3=some (.own 1 (endAt 1 ns) true (byteCells (tabB ns)) 0):=by
    rw[← hL,← hT]
    refine loop_n ns.length (fun i=> [(1,.ptr 0 0),(3,.own 1 (endAt 1 (ns.take i)) true (byteCells (tabB (ns.take i))) 0),(4,.d (.i .i64 i))]) (fun i=> s0 [.row [T]] [endAt 1 (ns.take i)] 0 0) ?_ (by simp[tabB,byteCells,endAt]) (by simp[endAt])
    intro i hi
    rcases Nat.lt_or_ge i ns.length with hlt | hge2
    · obtain⟨y,hy⟩:∃ y,ns[i]? =some y:=⟨_,List.getElem?_eq_getElem hlt⟩
      have h1:IntKind.wrap .i64 ((i:Int)+1)=i+1:=wrap_i64 (by omega) (by omega)
      obtain⟨g1,g2⟩:=names_get (nz:=nz) hy (k:= .i64)
      rw[← hT]at g1
      have htk:=take_snoc hy
      have hsm:=endAt_mono (a:=1) (ns:=ns) (i:=i+1)
      have he:endAt 1 (ns.take (i+1))=endAt 1 (ns.take i)+y.length+1:=by rw[htk,endAt_snoc]
      have hcl:(tabB (ns.take i)).length=endAt 1 (ns.take i):=tabB_len
      obtain⟨E,hE⟩:∃ E,E=endAt 1 (ns.take i):=⟨_,rfl⟩
      rw[← hE]at he hcl
      have hb1:E+y.length≤140737488355328:=by omega
      have hb2:E+(y.length+1)≤140737488355328:=by omega
      have ht2:byteCells (tabB (ns.take (i+1)))=byteCells (tabB (ns.take i))++(byteCells y++ [.i .u8 0]):=by rw[htk,tabB_snoc,byteCells_app,byteCells_app];rfl
      simp[F168_b0,hTl,hlt,g1,g2,← hE,appV,vw,byteCells_len,hcl,hb1,hb2,fillV,lay,reps,ofDs,he,h1,ht2,Nat.add_assoc]
    · have:i=ns.length:=by omega
      subst this
      simp[F168_b0,hTl]
  obtain⟨e,s,rfl,h4⟩:=hQ
  have hl:endAt 1 ns=(tabB ns).length:=tabB_len.symm
  simp[h4,bsl,hl]
end
end Go.Sh
