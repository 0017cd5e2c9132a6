/- Part of the proof. -/
import Derived.Test.YtpgipjjhapapjaaShLbookF
set_option linter.unusedVariables false
set_option linter.unusedSimpArgs false
namespace Go.Sh
theorem Labs.add {s:St}{lab:Nat→Option Nat}(h:Labs s lab)(a:Nat){j:Option Nat}(hj:∀ r,j=some r→r < s.heap.length∧∀ c,lab c≠some r):Labs s (upd lab a j):=by
  refine⟨fun c r hr=> ?_,fun c d r hc hd=> ?_⟩
  · by_cases hc:c=a
    · subst hc;rw[upd_eq]at hr;exact(hj r hr).1
    · rw[upd_ne hc]at hr;exact h.lt c r hr
  · by_cases hca:c=a <;> by_cases hda:d=a
    · rw[hca,hda]
    · subst hca
      rw[upd_eq]at hc
      rw[upd_ne hda]at hd
      exact absurd hd ((hj r hc).2 d)
    · subst hda
      rw[upd_eq]at hd
      rw[upd_ne hca]at hc
      exact absurd hc ((hj r hd).2 c)
    · rw[upd_ne hca]at hc
      rw[upd_ne hda]at hd
      exact h.sep c d r hc hd
theorem BkI.lablt {st:St}{p:Nat}{b:Bk}(h:BkI st p b):∀ a r,b.lab p a=some r→r < st.heap.length:=by
  intro a r hr
  match a,hr with
  | 0,hr=> obtain rfl:=Option.some.inj hr;exact row_lt h.row
  | 1,hr=> exact h.F.lt hr
  | 2,hr=> exact h.H.lt hr
  | 3,hr=> exact h.M.lt hr
  | 4,hr=> exact h.K.lt hr
  | 5,hr=> exact h.W.lt hr
  | a+6,hr=>
    cases hx:b.fr[a]? with
    | none=> simp[Bk.lab,hx]at hr
    | some x=>
      have hr:x.1=some r:=by simpa[Bk.lab,hx]using hr
      exact(h.fr x (List.mem_of_getElem? hx)).lt hr
structure OW (st s:St)(p:Nat)(b b':Bk)(n:Nat)(j:Option Nat):Prop where
  bk:BkI s p b'
  frl:b'.fr.length≤2
  total:b'.total=b.total+n
  gr:Gr st s (fun r=> (∃ a,b.lab p a=some r)∨j=some r∨st.heap.length≤r) (fun _=> True)
  lo:∀ a r,b'.lab p a=some r→(∃ c,b.lab p c=some r)∨j=some r∨st.heap.length≤r
  kl:b'.kv.length≤b.kv.length+18
  vo:∀ v,v∈b'.kv∨v∈b'.wv→∀ r,foot v=some r→OldR st p b r∨j=some r
section
variable {pr:Prog}(hp:Sub bookFns pr){st:St}{p:Nat}{b:Bk}
include hp
theorem callW_Own (h:BkI st p b){l:V}{n:Nat}{L:List UInt8}{j:Option Nat}(hl:LR st 1 l n (ofDs (byteCells L)) j)(hj:∀ r,j=some r→(∀ a,b.lab p a≠some r)∧∀ v,v∈b.kv∨v∈b.wv→foot v≠some r)(hn:n≤1099511627776)(mark:Int)(hf:b.fr.length≤2)(hkl:b.kv.length≤899998000)(ht:b.total+n≤4611686018427387904){Q:V→St→Prop}
    (hQ:∀ s b',OW st s p b b' n j→Q (.tup []) s):CallW pr 126 [.ptr p 0,l,.d (.i .i64 mark)] st Q:=by
  refine .run wBook (hp.at 5 rfl) rfl ?_
  rw[start_raw _ rfl]
  refine codeC_of ?_
  have hrow:=h.row
  simp only[Bk.cells]at hrow
  have hpl:=row_lt hrow
  have hset:∀ cs,st.setBlk p (.row cs)=some (st.put p cs):=fun cs=> setBlk_put h.fl
  have hset2:∀ cs ds,(st.put p cs).setBlk p (.row ds)=some (st.put p ds):=fun cs ds=> by rw[setBlk_put (by rw[put_floor];exact h.fl),put_put]
  have hrow2:∀ cs,(st.put p cs).row p=some cs:=fun cs=> row_put_eq hpl
  have hlen:=hl.len
  have htot:=h.total
  have hw:IntKind.wrap .i64 (b.total+n)=b.total+n:=wrap_i64 (by omega) (by omega)
  obtain⟨c1,hc1⟩:∃ c1,c1=IntKind.wrap .i64 (b.count+1):=⟨_,rfl⟩
  have hone:=hl.one
  obtain⟨t1,ht1⟩:∃ t1,t1=b.total+n:=⟨_,rfl⟩
  rw[← ht1]at hw
  obtain⟨s2,hs2⟩:∃ s2,s2=st.put p [.d (.i .i64 c1),.d (.i .i64 t1),.d (.b false),b.F,b.H,b.M,b.K,b.W]:=⟨_,rfl⟩
  have hrow22:s2.row p=some [.d (.i .i64 c1),.d (.i .i64 t1),.d (.b false),b.F,b.H,b.M,b.K,b.W]:=by rw[hs2];exact hrow2 _
  have hfl2:s2.floor=0:=by rw[hs2,put_floor];exact h.fl
  simp[F126,hrow,hset,hset2,hrow2,lay,hlen,hw,← hc1,← ht1,← hs2,hrow22,hone,fillV,reps,ofDs]
  -- labels
  let A:Nat→Prop:=fun r=> b.lab p 0=some r∨b.lab p 1=some r∨b.lab p 2=some r∨b.lab p 3=some r
  have hA:∀ a,3 < a→∀ r,b.lab p a=some r→¬ A r:=by
    intro a ha r hr e
    rcases e with e | e | e | e <;> (have:=h.sep _ _ r hr e;omega)
  have hAj:∀ r,j=some r→¬ A r:=by
    intro r hr e
    rcases e with e | e | e | e <;> exact(hj r hr).1 _ e
  have hAv:∀ v,v∈b.kv∨v∈b.wv→∀ r,foot v=some r→¬ A r:=by
    intro v hv r hr e
    rcases e with e | e | e | e <;> exact h.out v hv r hr _ e
  have hnl:b.lab p (b.fr.length+6)=none:=by simp[Bk.lab]
  have L0:Labs st (upd (b.lab p) (b.fr.length+6) j):=Labs.add ⟨h.lablt,h.sep⟩ _ fun r hr=> ⟨hl.lt hr,(hj r hr).1⟩
  obtain⟨lab0,hlab0⟩:∃ lab0,lab0=upd (b.lab p) (b.fr.length+6) j:=⟨_,rfl⟩
  rw[← hlab0]at L0
  have l00:lab0 0=some p:=by rw[hlab0,upd_ne (by omega)];rfl
  have l01:lab0 1=b.jF:=by rw[hlab0,upd_ne (by omega)];rfl
  have l02:lab0 2=b.jH:=by rw[hlab0,upd_ne (by omega)];rfl
  have l03:lab0 3=b.jM:=by rw[hlab0,upd_ne (by omega)];rfl
  have fr0:∀ v,v∈b.kv∨v∈b.wv→Free lab0 v:=by
    intro v hv r hr a ha
    rw[hlab0]at ha
    by_cases h6:a=b.fr.length+6
    · subst h6;rw[upd_eq]at ha;exact(hj r ha).2 v hv hr
    · rw[upd_ne h6]at ha;exact h.out v hv r hr a ha
  -- the list
  have G2:Gr st s2 A (fun _=> True):=by rw[hs2];exact .put hrow rfl (.inl rfl) fun _ _ _=> .inr trivial
  have G3:Gr st (s2.push (.row [l])) A (fun _=> True):=G2.trans (.push _)
  have hv3:=vwV_lit s2 l
  have F3:LR (s2.push (.row [l])) 1 b.F b.fr.length (b.fr.map fun x=> x.2.1) b.jF:=by
    refine(h.F.row (s1:=s2) fun r hr=> ?_).gr (A:=fun _=> False) (P:=fun _=> True) (.push _) fun _ _ h=> h
    rw[hs2]
    exact row_put_ne fun e=> by have:=h.sep 1 0 r hr (by rw[e];rfl);omega
  have L3:Labs (s2.push (.row [l])) lab0:=L0.mono G3.len
  refine appW_LR (by simpa using hfl2) F3 hv3 (by simp) rfl (by omega) (by omega) ?_
  intro s4 F' jF' F4 g4 n4
  have g4':Gr (s2.push (.row [l])) s4 A (fun _=> True):=g4.mono (fun r _ e=> .inr (.inl e)) fun _ _=> trivial
  have L4:Labs s4 (upd lab0 1 jF'):=L3.set g4.len (by rw[l01];exact n4)
  have hrow4:s4.row p=some [.d (.i .i64 c1),.d (.i .i64 t1),.d (.b false),b.F,b.H,b.M,b.K,b.W]:=by
    rw[g4.keep p (by simp;exact Nat.lt_succ_of_lt (row_lt hrow22)) fun e=> by have:=h.sep 1 0 p e rfl;omega,row_old (row_lt hrow22)]
    exact hrow22
  have hfl4:s4.floor=0:=by rw[g4.floor];exact hfl2
  have hset4:∀ cs,s4.setBlk p (.row cs)=some (s4.put p cs):=fun cs=> setBlk_put hfl4
  obtain⟨s5,hs5⟩:∃ s5,s5=s4.put p [.d (.i .i64 c1),.d (.i .i64 t1),.d (.b false),F',b.H,b.M,b.K,b.W]:=⟨_,rfl⟩
  have hrow5:s5.row p=some [.d (.i .i64 c1),.d (.i .i64 t1),.d (.b false),F',b.H,b.M,b.K,b.W]:=by rw[hs5];exact row_put_eq (row_lt hrow4)
  have g45:Gr s4 s5 A (fun _=> True):=by rw[hs5];exact .put hrow4 rfl (.inl rfl) fun _ _ _=> .inr trivial
  have G5:Gr st s5 A (fun _=> True):=G3.trans (g4'.trans g45)
  have L5:=L4.mono g45.len
  have hfl5:s5.floor=0:=by rw[g45.floor];exact hfl4
  have p5:∀ a,a≠0→∀ r,upd lab0 1 jF' a=some r→r≠p:=fun a ha r hr e=> ha (L4.sep a 0 r hr (by rw[upd_ne (by omega),l00,e]))
  have F5:LR s5 1 F' (b.fr.length+1) ((b.fr.map fun x=> x.2.1)++ [l]) jF':=F4.row fun r hr=> by rw[hs5];exact row_put_ne (p5 1 (by omega) r (by rw[upd_eq];exact hr))
  have H5:LR s5 1 b.H b.fr.length (b.fr.map fun x=> bsl true x.2.2) b.jH:=by
    have H3:LR (s2.push (.row [l])) 1 b.H b.fr.length (b.fr.map fun x=> bsl true x.2.2) b.jH:=by
      refine(h.H.row (s1:=s2) fun r hr=> ?_).gr (A:=fun _=> False) (P:=fun _=> True) (.push _) fun _ _ h=> h
      rw[hs2]
      exact row_put_ne fun e=> by have:=h.sep 2 0 r hr (by rw[e];rfl);omega
    refine(H3.gr g4 fun r hr e=> by have:=h.sep 2 1 r hr e;omega).row fun r hr=> ?_
    rw[hs5]
    exact row_put_ne fun e=> by have:=h.sep 2 0 r hr (by rw[e];rfl);omega
  have M5:LR s5 1 b.M b.fr.length (b.marks.map fun m=> .d (.i .i64 m)) b.jM:=by
    have H3:LR (s2.push (.row [l])) 1 b.M b.fr.length (b.marks.map fun m=> .d (.i .i64 m)) b.jM:=by
      refine(h.M.row (s1:=s2) fun r hr=> ?_).gr (A:=fun _=> False) (P:=fun _=> True) (.push _) fun _ _ h=> h
      rw[hs2]
      exact row_put_ne fun e=> by have:=h.sep 3 0 r hr (by rw[e];rfl);omega
    refine(H3.gr g4 fun r hr e=> by have:=h.sep 3 1 r hr e;omega).row fun r hr=> ?_
    rw[hs5]
    exact row_put_ne fun e=> by have:=h.sep 3 0 r hr (by rw[e];rfl);omega
  have hF1:=F4.one
  simp[hrow4,hset4,lay,hF1,← hs5]
  -- its copy
  have l5:LR s5 1 l n (ofDs (byteCells L)) j:=hl.gr G5 hAj
  obtain⟨nz,hsee⟩:=(l5.byt).1.see 0
  have hLn:n=L.length:=(l5.byt).2.2
  refine drawn2 8 [0] (by decide) (by decide) ?_
  simp[hrow5]
  have hcb:bsl true L= .d (.sl L.length true (byteCells L)):=rfl
  refine⟨_,callW_copyBytes hp hsee (by omega),?_⟩
  simp[hcb,fillV,reps,ofDs,lay]
  refine appW_LR hfl5 H5 (vwV_data _ _ _ _) (by simp[ofDs]) rfl (by omega) (by omega) ?_
  intro s6 H' jH' H6 g6 n6
  have g6':Gr s5 s6 A (fun _=> True):=g6.mono (fun r _ e=> .inr (.inr (.inl e))) fun _ _=> trivial
  have L6:Labs s6 (upd (upd lab0 1 jF') 2 jH'):=L5.set g6.len (by rw[upd_ne (by omega),l02];exact n6)
  have hp5:=row_lt hrow5
  have hrow6:s6.row p=some [.d (.i .i64 c1),.d (.i .i64 t1),.d (.b false),F',b.H,b.M,b.K,b.W]:=by
    rw[g6.keep p hp5 fun e=> by have:=h.sep 2 0 p e rfl;omega]
    exact hrow5
  have hfl6:s6.floor=0:=by rw[g6.floor];exact hfl5
  have hset6:∀ cs,s6.setBlk p (.row cs)=some (s6.put p cs):=fun cs=> setBlk_put hfl6
  obtain⟨s7,hs7⟩:∃ s7,s7=s6.put p [.d (.i .i64 c1),.d (.i .i64 t1),.d (.b false),F',H',b.M,b.K,b.W]:=⟨_,rfl⟩
  have hrow7:s7.row p=some [.d (.i .i64 c1),.d (.i .i64 t1),.d (.b false),F',H',b.M,b.K,b.W]:=by rw[hs7];exact row_put_eq (row_lt hrow6)
  have g67:Gr s6 s7 A (fun _=> True):=by rw[hs7];exact .put hrow6 rfl (.inl rfl) fun _ _ _=> .inr trivial
  have G7:Gr st s7 A (fun _=> True):=G5.trans (g6'.trans g67)
  have L7:=L6.mono g67.len
  have hfl7:s7.floor=0:=by rw[g67.floor];exact hfl6
  have p7:∀ a,a≠0→∀ r,upd (upd lab0 1 jF') 2 jH' a=some r→r≠p:=fun a ha r hr e=> ha (L6.sep a 0 r hr (by rw[upd_ne (by omega),upd_ne (by omega),l00,e]))
  have H7:LR s7 1 H' (b.fr.length+1) _ jH':=H6.row fun r hr=> by rw[hs7];exact row_put_ne (p7 2 (by omega) r (by rw[upd_eq];exact hr))
  have F7:LR s7 1 F' (b.fr.length+1) ((b.fr.map fun x=> x.2.1)++ [l]) jF':=by
    refine(F5.gr g6 fun r hr e=> by have:=L5.sep 1 2 r (by rw[upd_eq];exact hr) (by rw[upd_ne (by omega),l02];exact e);omega).row fun r hr=> ?_
    rw[hs7]
    exact row_put_ne (p7 1 (by omega) r (by rw[upd_ne (by omega),upd_eq];exact hr))
  have M7:LR s7 1 b.M b.fr.length (b.marks.map fun m=> .d (.i .i64 m)) b.jM:=by
    refine(M5.gr g6 fun r hr e=> by have:=h.sep 3 2 r hr e;omega).row fun r hr=> ?_
    rw[hs7]
    exact row_put_ne fun e=> by have:=h.sep 3 0 r hr (by rw[e];rfl);omega
  have hH1:=H6.one
  simp[hrow6,hset6,lay,hH1,← hs7]
  -- its mark
  refine drawn2 13 [0] (by decide) (by decide) ?_
  simp[hrow7,fillV,reps,ofDs,lay]
  obtain⟨m1,hm1⟩:∃ m1,m1=IntKind.wrap .i64 (mark+IntKind.wrap .i64 (31 * c1)):=⟨_,rfl⟩
  rw[← hm1]
  refine appW_LR hfl7 M7 (vwV_data _ _ _ _) (by simp[ofDs]) rfl (by omega) (by omega) ?_
  intro s8 M' jM' M8 g8 n8
  have g8':Gr s7 s8 A (fun _=> True):=g8.mono (fun r _ e=> .inr (.inr (.inr e))) fun _ _=> trivial
  have L8:Labs s8 (upd (upd (upd lab0 1 jF') 2 jH') 3 jM'):=L7.set g8.len (by rw[upd_ne (by omega),upd_ne (by omega),l03];exact n8)
  have hrow8:s8.row p=some [.d (.i .i64 c1),.d (.i .i64 t1),.d (.b false),F',H',b.M,b.K,b.W]:=by
    rw[g8.keep p (row_lt hrow7) fun e=> by have:=h.sep 3 0 p e rfl;omega]
    exact hrow7
  have hfl8:s8.floor=0:=by rw[g8.floor];exact hfl7
  have hset8:∀ cs,s8.setBlk p (.row cs)=some (s8.put p cs):=fun cs=> setBlk_put hfl8
  obtain⟨s9,hs9⟩:∃ s9,s9=s8.put p [.d (.i .i64 c1),.d (.i .i64 t1),.d (.b false),F',H',M',b.K,b.W]:=⟨_,rfl⟩
  have hrow9:s9.row p=some [.d (.i .i64 c1),.d (.i .i64 t1),.d (.b false),F',H',M',b.K,b.W]:=by rw[hs9];exact row_put_eq (row_lt hrow8)
  have g89:Gr s8 s9 A (fun _=> True):=by rw[hs9];exact .put hrow8 rfl (.inl rfl) fun _ _ _=> .inr trivial
  have G9:Gr st s9 A (fun _=> True):=G7.trans (g8'.trans g89)
  have L9:=L8.mono g89.len
  have p9:∀ a,a≠0→∀ r,upd (upd (upd lab0 1 jF') 2 jH') 3 jM' a=some r→r≠p:=fun a ha r hr e=> ha (L8.sep a 0 r hr (by rw[upd_ne (by omega),upd_ne (by omega),upd_ne (by omega),l00,e]))
  have M9:LR s9 1 M' (b.fr.length+1) _ jM':=M8.row fun r hr=> by rw[hs9];exact row_put_ne (p9 3 (by omega) r (by rw[upd_eq];exact hr))
  have F9:LR s9 1 F' (b.fr.length+1) ((b.fr.map fun x=> x.2.1)++ [l]) jF':=by
    refine(F7.gr g8 fun r hr e=> by have:=L7.sep 1 3 r (by rw[upd_ne (by omega),upd_eq];exact hr) (by rw[upd_ne (by omega),upd_ne (by omega),l03];exact e);omega).row fun r hr=> ?_
    rw[hs9]
    exact row_put_ne (p9 1 (by omega) r (by rw[upd_ne (by omega),upd_ne (by omega),upd_eq];exact hr))
  have H9:LR s9 1 H' (b.fr.length+1) ((b.fr.map fun x=> bsl true x.2.2)++ofDs [.sl L.length true (byteCells L)]) jH':=by
    refine(H7.gr g8 fun r hr e=> by have:=L7.sep 2 3 r (by rw[upd_eq];exact hr) (by rw[upd_ne (by omega),upd_ne (by omega),l03];exact e);omega).row fun r hr=> ?_
    rw[hs9]
    exact row_put_ne (p9 2 (by omega) r (by rw[upd_ne (by omega),upd_eq];exact hr))
  have hM1:=M8.one
  -- the book
  obtain⟨b',hb'⟩:∃ b':Bk,b'=⟨c1,t1,F',H',M',b.K,b.W,jF',jH',jM',b.jK,b.jW,b.fr++ [(j,l,L)],b.marks++ [m1],b.kv,b.wv⟩:=⟨_,rfl⟩
  have hlab:∀ a,b'.lab p a=upd (upd (upd lab0 1 jF') 2 jH') 3 jM' a:=by
    subst hb'
    intro a
    match a with
    | 0=> rw[upd_ne (by omega),upd_ne (by omega),upd_ne (by omega),l00];rfl
    | 1=> rw[upd_ne (by omega),upd_ne (by omega),upd_eq];rfl
    | 2=> rw[upd_ne (by omega),upd_eq];rfl
    | 3=> rw[upd_eq];rfl
    | 4=> rw[upd_ne (by omega),upd_ne (by omega),upd_ne (by omega),hlab0,upd_ne (by omega)];rfl
    | 5=> rw[upd_ne (by omega),upd_ne (by omega),upd_ne (by omega),hlab0,upd_ne (by omega)];rfl
    | a+6=>
      rw[upd_ne (by omega),upd_ne (by omega),upd_ne (by omega),hlab0]
      show((b.fr++ [(j,l,L)])[a]?).bind (·.1)=_
      rcases Nat.lt_trichotomy a b.fr.length with hlt | rfl | hgt
      · rw[upd_ne (by omega),List.getElem?_append_left hlt];rfl
      · rw[upd_eq,List.getElem?_append_right (Nat.le_refl _),Nat.sub_self];rfl
      · rw[upd_ne (by omega),List.getElem?_append_right (by omega),List.getElem?_eq_none (by simp;omega)]
        show none=(b.fr[a]?).bind (·.1)
        rw[List.getElem?_eq_none (by omega)]
        rfl
  have bytK:∀ v,v∈b.kv∨v∈b.wv→∃ L,Byt st v L:=by
    intro v hv
    have hwl:b.wv.length=b.kv.length:=by simpa using h.W.1
    rcases hv with hv | hv
    · obtain⟨i,hi⟩:=List.mem_iff_getElem?.1 hv
      have hlt:=(List.getElem?_eq_some_iff.1 hi).1
      obtain⟨w,hw⟩:∃ w,b.wv[i]? =some w:=⟨_,List.getElem?_eq_getElem (by omega)⟩
      obtain⟨L,h1,_⟩:=h.kw i v w hi hw
      exact⟨L,h1⟩
    · obtain⟨i,hi⟩:=List.mem_iff_getElem?.1 hv
      have hlt:=(List.getElem?_eq_some_iff.1 hi).1
      obtain⟨w,hw⟩:∃ w,b.kv[i]? =some w:=⟨_,List.getElem?_eq_getElem (by omega)⟩
      obtain⟨L,_,h1⟩:=h.kw i w v hw hi
      exact⟨L,h1⟩
  have fr9:∀ v,v∈b.kv∨v∈b.wv→Free (upd (upd (upd lab0 1 jF') 2 jH') 3 jM') v:=by
    intro v hv
    obtain⟨L',hb⟩:=bytK v hv
    have hAv':=hAv v hv
    exact(((fr0 v hv).set (hb.gr G3 hAv') (a:=1) (j:=jF') (by rw[l01];exact n4)).set (hb.gr G5 hAv') (a:=2) (j:=jH') (by rw[upd_ne (by omega),l02];exact n6)).set (hb.gr G7 hAv') (a:=3) (j:=jM') (by rw[upd_ne (by omega),upd_ne (by omega),l03];exact n8)
  have bk:BkI s9 p b':=by
    have hks:=h.small
    have e1:(b.fr++ [(j,l,L)]).length=b.fr.length+1:=by simp
    have hsep:∀ a c i,b'.lab p a=some i→b'.lab p c=some i→a=c:=fun a c i ha hc=> by
      rw[hlab]at ha hc
      exact L9.sep a c i ha hc
    have hout:∀ v,v∈b.kv∨v∈b.wv→∀ j,foot v=some j→∀ a,b'.lab p a≠some j:=fun v hv r hr a=> by
      rw[hlab]
      exact fr9 v hv r hr a
    subst hb'
    refine⟨G9.floor.trans h.fl,hrow9,?_,?_,?_,h.K.gr G9 (hA 4 (by omega)),h.W.gr G9 (hA 5 (by omega)),?_,?_,hsep,hout,⟨?_,hks.2⟩,?_,?_⟩
    · have:=F9
      simpa using this
    · have:=H9
      simpa[ofDs,bsl]using this
    · have:=M9
      simpa[ofDs]using this
    · intro x hx
      rcases List.mem_append.1 hx with hx | hx
      · refine(h.fr x hx).gr G9 fun r hr=> ?_
        obtain⟨i,hi⟩:=List.mem_iff_getElem?.1 hx
        exact hA (i+6) (by omega) r (by simp[Bk.lab,hi,hr])
      · simp only[List.mem_singleton]at hx
        subst hx
        have:=hl.gr G9 hAj
        rw[hLn]at this
        exact this
    · intro i k w hk hw'
      obtain⟨L',h1,h2⟩:=h.kw i k w hk hw'
      exact⟨L',h1.gr G9 (hAv k (.inl (List.mem_of_getElem? hk))),h2.gr G9 (hAv w (.inr (List.mem_of_getElem? hw')))⟩
    · show(b.fr++ [(j,l,L)]).length≤3
      omega
    · intro x hx
      rcases List.mem_append.1 hx with hx | hx
      · exact h.size x hx
      · simp only[List.mem_singleton]at hx
        subst hx
        show L.length≤_
        omega
    · show 0≤t1
      omega
  have hAb:∀ r,A r→∃ a,b.lab p a=some r:=fun r e=> by
    rcases e with e | e | e | e <;> exact⟨_,e⟩
  have lo9:∀ a r,b'.lab p a=some r→(∃ c,b.lab p c=some r)∨j=some r∨st.heap.length≤r:=by
    intro a r hr
    rw[hlab]at hr
    have base:∀ c q,lab0 c=some q→((∃ c,b.lab p c=some q)∨j=some q)∨st.heap.length≤q:=by
      intro c q hq
      rw[hlab0]at hq
      by_cases h6:c=b.fr.length+6
      · subst h6;rw[upd_eq]at hq;exact .inl (.inr hq)
      · rw[upd_ne h6]at hq;exact .inl (.inl ⟨c,hq⟩)
    have l1:=lo_upd (P:=fun q=> ((∃ c,b.lab p c=some q)∨j=some q)∨st.heap.length≤q) base (a:=1) (j:=jF') (NewOr.lo (Q:=fun q=> (∃ c,b.lab p c=some q)∨j=some q) (lab:=lab0) (a:=1) (by rw[l01];exact n4) base G3.len)
    have l2:=lo_upd (P:=fun q=> ((∃ c,b.lab p c=some q)∨j=some q)∨st.heap.length≤q) l1 (a:=2) (j:=jH') (NewOr.lo (Q:=fun q=> (∃ c,b.lab p c=some q)∨j=some q) (lab:=upd lab0 1 jF') (a:=2) (by rw[upd_ne (by omega),l02];exact n6) l1 G5.len)
    have l3:=lo_upd (P:=fun q=> ((∃ c,b.lab p c=some q)∨j=some q)∨st.heap.length≤q) l2 (a:=3) (j:=jM') (NewOr.lo (Q:=fun q=> (∃ c,b.lab p c=some q)∨j=some q) (lab:=upd (upd lab0 1 jF') 2 jH') (a:=3) (by rw[upd_ne (by omega),upd_ne (by omega),l03];exact n8) l2 G7.len)
    rcases l3 a r hr with(e | e) | e
    · exact .inl e
    · exact .inr (.inl e)
    · exact .inr (.inr e)
  have hFl:=F9.len
  simp[hrow8,hset8,lay,hM1,← hs9,hrow9,hFl]
  have hG:Gr st s9 (fun r=> (∃ a,b.lab p a=some r)∨j=some r∨st.heap.length≤r) (fun _=> True):=G9.mono (fun r _ e=> .inl (hAb r e)) fun _ _=> trivial
  have hdone:b.fr.length≤1→Q (.tup []) s9:=fun h2=> hQ s9 b' ⟨bk,by rw[hb'];simp;omega,by rw[hb'];exact ht1,hG,lo9,by rw[hb'];exact Nat.le_add_right _ _,by rw[hb'];exact fun v hv r hr=> .inl (.inl ⟨v,hv,hr⟩)⟩
  have hkv:b'.kv.length=b.kv.length:=by rw[hb']
  have hfin:∀ s b'',WE s9 s p b' b''→Q (.tup []) s:=fun s b'' hw=> hQ s b'' ⟨hw.bk,by rw[hw.fr];simp,by rw[hw.total,hb'];exact ht1,
    hG.trans (hw.gr.mono (fun r _ e=> by
      rcases e with⟨a,e⟩ | e
      · exact lo9 a r e
      · have:=G9.len
        exact .inr (.inr (by omega))) fun _ _=> trivial),fun a r hr=> by
      rcases hw.lo a r hr with⟨c,e⟩ | e
      · exact lo9 c r e
      · have:=G9.len
        exact .inr (.inr (by omega)),by have:=hw.kl;omega,fun v hv r hr=> by
      rcases hw.vo v hv r hr with⟨v0,h0,h1⟩ | ⟨a,e⟩ | e
      · rw[hb']at h0
        exact .inl (.inl ⟨v0,h0,h1⟩)
      · rcases lo9 a r e with e | e | e
        · exact .inl (.inr (.inl e))
        · exact .inr e
        · exact .inl (.inr (.inr e))
      · have:=G9.len
        exact .inl (.inr (.inr (by omega)))⟩
  have hwr:∀ {Q':V→St→Prop},(∀ s b'',WE s9 s p b' b''→Q' (.tup []) s)→CallW pr 130 [.ptr p 0] s9 Q':=callW_write hp bk (by omega)
  by_cases h3:3≤(b.fr.length:Int)+1
  · simp[h3,wBook]
    refine hwr fun s b'' hw=> ?_
    simp[FinW]
    exact hfin s b'' hw
  simp[h3,hrow9,hFl,lay]
  by_cases h1:(b.fr.length:Int)+1=1
  rotate_left
  · simp[h1,FinW]
    exact hdone (by omega)
  by_cases h4:c1.tmod 4=0
  · simp[h1,hrow9,h4,wBook]
    refine hwr fun s b'' hw=> ?_
    simp[FinW]
    exact hfin s b'' hw
  · simp[h1,hrow9,h4,FinW]
    exact hdone (by omega)
end
end Go.Sh
