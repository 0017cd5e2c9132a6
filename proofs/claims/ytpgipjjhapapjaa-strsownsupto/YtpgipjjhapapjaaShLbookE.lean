/- Part of the proof. -/
import Derived.Test.YtpgipjjhapapjaaShLbook1
set_option linter.unusedVariables false
set_option linter.unusedSimpArgs false
namespace Go.Sh
def OldR (st:St)(p:Nat)(b:Bk)(r:Nat):Prop:=(∃ v,(v∈b.kv∨v∈b.wv)∧foot v=some r)∨(∃ a,b.lab p a=some r)∨st.heap.length≤r
structure WB (st s:St)(p:Nat)(b:Bk)(i:Nat)(K W G:V)(lab:Nat→Option Nat)(kv wv gv:List V):Prop where
  bi:BI s p (.d (.i .i64 b.count)) (.d (.i .i64 b.total)) b.F b.H b.M K W G lab kv wv gv
  l1:lab 1=b.jF
  l3:lab 3=b.jM
  lf:∀ t,i≤t→lab (t+6)=(b.fr[t]?).bind (·.1)
  F:LR s 1 b.F b.fr.length (b.fr.map fun x=> x.2.1) b.jF
  M:LR s 1 b.M b.fr.length (b.marks.map fun m=> .d (.i .i64 m)) b.jM
  fr:∀ (t:Nat) (x:Option Nat×V×List UInt8),b.fr[t]? =some x→i≤t→LR s 1 x.2.1 x.2.2.length (ofDs (byteCells (markL (b.marks.getD t 0) x.2.2.length))) x.1
  gr:Gr st s (fun r=> (∃ a,b.lab p a=some r)∨st.heap.length≤r) (fun _=> True)
  lo:∀ a r,lab a=some r→(∃ c,b.lab p c=some r)∨st.heap.length≤r
  kl:kv.length≤b.kv.length+2 * i
  gl:gv.length=4 * i
  vo:∀ v,v∈kv∨v∈wv∨v∈gv→∀ r,foot v=some r→OldR st p b r
theorem u8_of (z:Int):∃ y:UInt8,IntKind.wrap .u8 z=y.toNat:=by
  have h:0≤IntKind.wrap .u8 z∧IntKind.wrap .u8 z < 256:=by
    simp only[IntKind.wrap,IntKind.bits,IntKind.signed]
    exact⟨Int.emod_nonneg _ (by decide),Int.emod_lt_of_pos _ (by decide)⟩
  refine⟨UInt8.ofNat (IntKind.wrap .u8 z).toNat,?_⟩
  rw[UInt8.toNat_ofNat']
  omega
theorem vwV_data (st:St)(n:Nat)(nz:Bool)(ds:List D):vwV 1 st (.d (.sl n nz ds))=some (n,ofDs ds):=rfl
theorem LR.sub {s s':St}{A:Nat→Prop}{P:V→Prop}{v g:V}{n n':Nat}{cells more:List V}{j:Option Nat}(h:LR s 1 v n cells j)(h':LR s' 1 g n' (cells++more) j)(gr:Gr s s' A P):LR s' 1 v n cells j:=by
  obtain⟨h0,⟨rfl,hn⟩ | ⟨j0,cap,tail,rfl,h1,h2,h3,h4⟩⟩:=h
  · exact⟨h0,.inl ⟨rfl,hn⟩⟩
  · obtain⟨tail',ht'⟩:=h'.inRow rfl
    obtain⟨c',k1,k2,_⟩:=gr.cell j0 _ h3
    rw[ht']at k1
    obtain rfl:=Option.some.inj k1
    refine⟨h0,.inr ⟨j0,cap,more++tail',rfl,h1,h2,by rw[← List.append_assoc];exact ht',?_⟩⟩
    simp only[List.length_append]at k2 ⊢
    omega
theorem lay_same {α:Type}(a r t:List α):lay (a++r++t) a.length r=a++r++t:=by
  unfold lay
  have h1:(a++r++t).take a.length=a:=by rw[List.append_assoc,List.take_left' rfl]
  have h2:(a++r++t).drop (a.length+r.length)=t:=List.drop_left' (by simp)
  rw[h1,h2]
theorem lo_upd {P:Nat→Prop}{lab:Nat→Option Nat}{a:Nat}{j:Option Nat}(h:∀ c r,lab c=some r→P r)(hj:∀ r,j=some r→P r):∀ c r,upd lab a j c=some r→P r:=by
  intro c r hr
  by_cases hc:c=a
  · subst hc;rw[upd_eq]at hr;exact hj r hr
  · rw[upd_ne hc]at hr;exact h c r hr
theorem NewOr.lo {Q:Nat→Prop}{n:Nat}{u u':St}{lab:Nat→Option Nat}{a:Nat}{j:Option Nat}(h:NewOr u u' (lab a) j)(hl:∀ c r,lab c=some r→Q r∨n≤r)(hn:n≤u.heap.length):∀ r,j=some r→Q r∨n≤r:=by
  intro r hr
  rcases h with rfl | ⟨q,rfl,hq,_⟩
  · exact hl a r hr
  · obtain rfl:=Option.some.inj hr
    exact .inr (by omega)
section
variable {pr:Prog}(hp:Sub bookFns pr){st:St}{p:Nat}{b:Bk}
include hp
theorem loopB (h:BkI st p b){s2:St}(h2:W2 st s2 b b.fr.length){Q:Out→Prop}(hQ:∀ e s K W G lab kv wv gv,e.get 0=some (.ptr p 0)→e.get 5=some G→WB st s p b b.fr.length K W G lab kv wv gv→Q (.exit 4,e,s)):
    CodeW pr (.loop [0,5,6] false F130_b2) [(0,.ptr p 0),(5,.d (.sl 0 false [])),(6,.d (.i .i64 0))] s2 Q:=by
  have hsm:=h.small.1
  have hml:b.marks.length=b.fr.length:=by simpa using h.M.1
  refine loopW_j wBook (fun n e s=> ∃ i K W G lab kv wv gv,i≤b.fr.length∧n=b.fr.length - i∧e= [(0,.ptr p 0),(5,G),(6,.d (.i .i64 i))]∧WB st s p b i K W G lab kv wv gv) ?_ (n:=b.fr.length) ?_
  rotate_left
  · have hkeep:∀ a:Nat,a≤5→∀ r,b.lab p a=some r→r < st.heap.length→s2.row r=st.row r:=by
      intro a ha r hr hlt
      refine h2.gr.keep r hlt ?_
      rintro⟨t,x,hx,hx1⟩
      have:b.lab p (t+6)=some r:=by simp[Bk.lab,hx,hx1]
      have:=h.sep a (t+6) r hr this
      omega
    have hlt:∀ a r,b.lab p a=some r→r < st.heap.length:=by
      intro a r hr
      match a,hr with
      | 0,hr=> obtain rfl:=Option.some.inj hr;exact row_lt h.row
      | 1,hr=> exact h.F.lt hr
      | 2,hr=> exact h.H.lt hr
      | 3,hr=> exact h.M.lt hr
      | 4,hr=> exact h.K.lt hr
      | 5,hr=> exact h.W.lt hr
      | a+6,hr=>
        cases hx:b.fr[a]? with
        | none=> simp[Bk.lab,hx]at hr
        | some x=>
          have hr:x.1=some r:=by simpa[Bk.lab,hx]using hr
          exact(h.fr x (List.mem_of_getElem? hx)).lt hr
    have hbyt:∀ v,v∈b.kv∨v∈b.wv→∀ L,Byt st v L→Byt s2 v L:=by
      intro v hv L hb
      refine hb.gr h2.gr fun r hr=> ?_
      rintro⟨t,x,hx,hx1⟩
      exact h.out v hv r hr (t+6) (by simp[Bk.lab,hx,hx1])
    have labs0:Labs s2 (b.lab p):=⟨fun a r hr=> Nat.lt_of_lt_of_le (hlt a r hr) h2.gr.len,h.sep⟩
    refine⟨0,b.K,b.W,.d (.sl 0 false []),upd (b.lab p) 2 none,b.kv,b.wv,[],Nat.zero_le _,rfl,by simp,⟨h2.gr.floor.trans h.fl,(hkeep 0 (by omega) p rfl (row_lt h.row)).trans h.row,rfl,h.K.row fun r hr=> hkeep 4 (by omega) r hr (h.K.lt hr),h.W.row fun r hr=> hkeep 5 (by omega) r hr (h.W.lt hr),.nil _ _,fun g hg=> (List.not_mem_nil hg).elim,?_,labs0.drop 2,?_⟩,rfl,rfl,?_,?_,?_,?_,?_,?_,by omega,rfl,?_⟩
    · intro i k w hk hw
      obtain⟨L,h1,h2⟩:=h.kw i k w hk hw
      exact⟨L,hbyt k (.inl (List.mem_of_getElem? hk)) L h1,hbyt w (.inr (List.mem_of_getElem? hw)) L h2⟩
    · intro v hv
      have hv:v∈b.kv∨v∈b.wv:=by
        rcases hv with hv | hv | hv
        · exact .inl hv
        · exact .inr hv
        · exact(List.not_mem_nil hv).elim
      exact Free.drop (fun r hr a ha=> h.out v hv r hr a ha) 2
    · intro t _
      rw[upd_ne (by omega)]
      rfl
    · exact h.F.row fun r hr=> hkeep 1 (by omega) r hr (h.F.lt hr)
    · exact h.M.row fun r hr=> hkeep 3 (by omega) r hr (h.M.lt hr)
    · intro t x hx _
      have:=h2.fr t x hx
      rw[if_pos (List.getElem?_eq_some_iff.1 hx).1]at this
      exact this
    · exact h2.gr.mono (fun r _ ⟨t,x,hx,hx1⟩=> .inl ⟨t+6,by simp[Bk.lab,hx,hx1]⟩) fun _ _=> trivial
    · intro a r hr
      by_cases ha:a=2
      · subst ha;rw[upd_eq]at hr;cases hr
      · rw[upd_ne ha]at hr
        exact .inl ⟨a,hr⟩
    · intro v hv r hr
      have hv:v∈b.kv∨v∈b.wv:=by
        rcases hv with hv | hv | hv
        · exact .inl hv
        · exact .inr hv
        · exact(List.not_mem_nil hv).elim
      exact .inl ⟨v,hv,hr⟩
  rintro n e s ⟨i,K,W,G,lab,kv,wv,gv,hi,rfl,rfl,hw⟩
  have hrow:=hw.bi.row
  have hlen:=hw.F.len
  rcases Nat.lt_or_ge i b.fr.length with hlt | hge
  rotate_left
  · have:i=b.fr.length:=by omega
    subst this
    simp[F130_b2,hrow,hlen]
    exact hQ _ _ K W G lab kv wv gv (by simp) (by simp) hw
  obtain⟨x,hx⟩:∃ x,b.fr[i]? =some x:=⟨_,List.getElem?_eq_getElem hlt⟩
  obtain⟨m,hm⟩:∃ m,b.marks[i]? =some m:=⟨_,List.getElem?_eq_getElem (by omega)⟩
  have hmi:b.marks.getD i 0=m:=by simp[List.getD,hm]
  obtain⟨jF,cF,hjF,f1,f2,f3,f4⟩:=hw.F.get i (x:=x.2.1) (by simp[hx]) (k:= .i64)
  obtain⟨jM,cM,hjM,m1,m2,m3,m4⟩:=hw.M.get i (x:= .d (.i .i64 m)) (by simp[hm]) (k:= .i64)
  have hl:=hw.fr i x hx (Nat.le_refl _)
  rw[hmi]at hl
  have hsz:=h.size x (List.mem_of_getElem? hx)
  generalize hA:markL m x.2.2.length=A at *
  have hAl:A.length=x.2.2.length:=by rw[← hA,markL_len]
  have hli:lab (i+6)=x.1:=by rw[hw.lf i (Nat.le_refl _),hx];rfl
  obtain⟨y1,hy1⟩:=u8_of (IntKind.wrap .u8 m+101)
  obtain⟨y2,hy2⟩:=u8_of (IntKind.wrap .u8 m+102)
  obtain⟨y3,hy3⟩:=u8_of (IntKind.wrap .u8 m+103)
  obtain⟨y4,hy4⟩:=u8_of (IntKind.wrap .u8 m+104)
  obtain⟨y5,hy5⟩:=u8_of (IntKind.wrap .u8 m+105)
  obtain⟨y6,hy6⟩:=u8_of (IntKind.wrap .u8 m+106)
  simp[F130_b2,wBook,hrow,hlen,hlt,f1,f2,f3,f4,m1,m2,m3,m4,hy1,fillV,reps,ofDs,lay]
  -- the first three
  let A1:Nat→Prop:=fun r=> x.1=some r∨s.heap.length≤r
  have toA:∀ {u u':St} {ys:List V},(∀ y∈ys,ByC y)→Gr u u' (fun r=> x.1=some r) (· ∈ys)→Gr u u' A1 ByC:=fun hy g=> g.mono (fun _ _ e=> .inl e) fun z hz=> hy z hz
  refine appW_LR2 hw.bi.fl hl (vwV_data _ _ _ _) (by simp[ofDs]) rfl (by omega) (by omega) ?_
  intro t1 g1 j1 lg1 gr1 nw1 hl1 _
  have G1:Gr s t1 A1 ByC:=toA (fun y hy=> by simp[ofDs]at hy;exact⟨y1,hy⟩) gr1
  simp[wBook,hy2,hy3,fillV,reps,ofDs,lay]
  refine appW_LR2 (G1.floor.trans hw.bi.fl) hl1 (vwV_data _ _ _ _) (by simp[ofDs]) rfl (by omega) (by omega) ?_
  intro t2 g2 j2 lg2 gr2 nw2 hl2 _
  have G12:Gr t1 t2 A1 ByC:=toA (fun y hy=> by simp[ofDs]at hy;rcases hy with hy | hy;exact⟨y2,hy⟩;exact⟨y3,hy⟩) gr2
  have G2:Gr s t2 A1 ByC:=G1.trans G12
  simp[wBook,hy4,hy5,hy6,fillV,reps,ofDs,lay]
  refine appW_LR2 (G2.floor.trans hw.bi.fl) hl2 (vwV_data _ _ _ _) (by simp[ofDs]) rfl (by omega) (by omega) ?_
  intro t3 g3 j3 lg3 gr3 nw3 hl3 _
  have G23:Gr t2 t3 A1 ByC:=toA (fun y hy=> by simp[ofDs]at hy;rcases hy with hy | hy | hy;exact⟨y4,hy⟩;exact⟨y5,hy⟩;exact⟨y6,hy⟩) gr3
  have G3:Gr s t3 A1 ByC:=G2.trans G23
  have hAlab:∀ r,r < s.heap.length→A1 r→lab (i+6)=some r:=fun r hr hA1=> by
    rcases hA1 with e | e
    · rw[hli,e]
    · omega
  have hBI:∀ {u:St},Gr s u A1 ByC→BI u p (.d (.i .i64 b.count)) (.d (.i .i64 b.total)) b.F b.H b.M K W G lab kv wv gv:=fun g=> hw.bi.gr g fun r hr hA1=> ⟨i+6,by omega,by omega,by omega,by omega,hAlab r hr hA1⟩
  have hlabF:∀ {u:St},Gr s u A1 ByC→∀ a,a≠i+6→∀ r,lab a=some r→u.row r=s.row r:=fun g a ha r hr=> by
    have hlt:=hw.bi.labs.lt a r hr
    exact g.keep r hlt fun hA1=> ha (hw.bi.labs.sep a (i+6) r hr (hAlab r hlt hA1))
  have hrow3:=(hBI G3).row
  have m23:t3.row jM=some cM:=(hlabF G3 3 (by omega) jM (by rw[hw.l3,hjM])).trans m2
  have hmk:=fun(k:Nat) mark (hk:k≤1099511627776) s=> den_marked hp (st:=s) k mark hk
  obtain⟨T,hT,hT2⟩:∃ T:Nat,minV (fun b a=> decide (b < a)) (.d (.i .i64 b.total)) (.d (.i .i64 3000))=some (.d (.i .i64 T))∧T≤3000:=by
    have h0:=h.total
    by_cases hle:3000 < b.total
    · exact⟨3000,by simp[minV,hle],by omega⟩
    · exact⟨b.total.toNat,by simp[minV,hle];omega,by omega⟩
  have hT3:IntKind.wrap .i64 ((T:Int)+70)=(T:Int)+70:=wrap_i64 (by omega) (by omega)
  have hmore:∀ s,den pr 131 [.d (.i .i64 ((T:Int)+70)),.d (.i .i64 (IntKind.wrap .i64 (m+107)))] s=some (bsl true (markL (IntKind.wrap .i64 (m+107)) (T+70)),s):=fun s=> hmk (T+70) (IntKind.wrap .i64 (m+107)) (by omega) s
  generalize hMr:markL (IntKind.wrap .i64 (m+107)) (T+70)=R at *
  have hRl:R.length=T+70:=by rw[← hMr,markL_len]
  have hRd:=bsl_d true R
  simp[wBook,hrow3,m23,m1,m3,m4,hT,hT3,hmore]
  -- place by place
  refine loopW_j wBook (fun n e s'=> ∃ (k:Nat) (g4:V) (j4:Option Nat),k≤R.length∧n=R.length - k∧e= [(0,.ptr p 0),(5,G),(6,.d (.i .i64 i)),(7,x.2.1),(9,g1),(10,g2),(11,g3),(12,bsl true R),(13,g4),(14,.d (.i .i64 k))]∧
    LR s' 1 g4 (x.2.2.length+k) (ofDs (byteCells A)++ofDs (byteCells (R.take k))) j4∧Gr t3 s' A1 ByC∧LR s' 1 x.2.1 x.2.2.length (ofDs (byteCells A)) x.1∧(j4=x.1∨∃ r,j4=some r∧s.heap.length≤r)) ?_ (n:=R.length) ?_
  rotate_left
  · exact⟨0,x.2.1,x.1,Nat.zero_le _,rfl,by simp,by simpa[byteCells,ofDs]using hl3,.refl _ _ _,hl3,.inl rfl⟩
  rintro n e s' ⟨k,g4,j4,hk,rfl,rfl,hg4,hgr,hl',hj4⟩
  rcases Nat.lt_or_ge k R.length with hkl | hkg
  · obtain⟨y,hy⟩:∃ y,R[k]? =some y:=⟨_,List.getElem?_eq_getElem hkl⟩
    have hia:=hRd.iaddr (i:=(k:Int)) (k:= .i64) (by omega) (by simp;omega)
    have hld:=fun st=> hRd.load (st:=st) (i:=k) (o:=0) (n:=1) (agg:=false) (el:=byC y) (by simp[hy]) (by omega) (by omega)
    simp[byC,ofDs]at hia hld
    have h1:IntKind.wrap .i64 ((k:Int)+1)=k+1:=wrap_i64 (by omega) (by omega)
    simp[F130_b3,wBook,hkl,hia,hld,fillV,reps,ofDs,lay]
    refine appW_LR2 (hgr.floor.trans (G3.floor.trans hw.bi.fl)) hg4 (vwV_data _ _ _ _) (by simp[ofDs]) rfl (by omega) (by omega) ?_
    intro s4 g4' j4' lg4 gr4 nw4 hold _
    have hgr4:Gr s' s4 A1 ByC:=gr4.mono (fun r _ e=> by
      rcases hj4 with h | ⟨q,h,hq⟩
      · exact .inl (h ▸ e)
      · rw[h]at e
        obtain rfl:=Option.some.inj e
        exact .inr hq) fun z hz=> by simp[ofDs]at hz;exact⟨y,hz⟩
    have hl4:LR s4 1 x.2.1 x.2.2.length (ofDs (byteCells A)) x.1:=by
      rcases hj4 with h | ⟨q,h,hq⟩
      · subst h
        exact hl'.sub hold gr4
      · refine hl'.gr gr4 fun r hr e=> ?_
        rw[h]at e
        obtain rfl:=Option.some.inj e
        have:=hl.lt hr
        omega
    simp[F130_b3,h1]
    refine⟨R.length - (k+1),by omega,k+1,by omega,rfl,g4',⟨rfl,rfl⟩,j4',?_,hgr.trans hgr4,hl4,?_⟩
    · have htk:R.take (k+1)=R.take k++ [y]:=by rw[List.take_add_one,hy];rfl
      have he:ofDs (byteCells A)++ofDs (byteCells (R.take k++ [y]))=ofDs (byteCells A)++ofDs (byteCells (R.take k))++ofDs [.i .u8 y.toNat]:=by simp[ofDs,byteCells]
      have h5:LR s4 1 g4' (x.2.2.length+k+1) (ofDs (byteCells A)++ofDs (byteCells (R.take (k+1)))) j4':=by
        rw[htk,he]
        exact lg4
      exact h5
    · rcases nw4 with rfl | ⟨q,rfl,hq,_⟩
      · exact hj4
      · right
        have:=G3.len
        have:=hgr.len
        exact⟨q,rfl,by omega⟩
  have hke:k=R.length:=by omega
  subst hke
  rw[List.take_length]at hg4
  -- at once
  simp[F130_b3]
  have hRc:(ofDs (byteCells R)).length=R.length:=by simp[ofDs,byteCells]
  have hAc:(ofDs (byteCells A)).length=x.2.2.length:=by simp[ofDs,byteCells,hAl]
  have hRb:∀ z∈ofDs (byteCells R),ByC z:=by
    intro z hz
    simp only[ofDs,byteCells,List.map_map,List.mem_map]at hz
    obtain⟨y,_,rfl⟩:=hz
    exact⟨y,rfl⟩
  have Gs':Gr s s' A1 ByC:=G3.trans hgr
  refine appW_LR2 (Gs'.floor.trans hw.bi.fl) hl' (show vwV 1 s' (bsl true R)=some (R.length,ofDs (byteCells R)) from rfl) (by rw[hRc,Nat.mul_one]) rfl (by omega) (by omega) ?_
  intro t5 g5 j5 lg5 gr5 nw5 hl5 lay5
  have G45:Gr s' t5 A1 ByC:=toA hRb gr5
  have G5:Gr s t5 A1 ByC:=Gs'.trans G45
  -- what the list that grew place by place holds
  have b4:Byt t5 g4 (A++R)∧foot g4=j4:=by
    have hcat:ofDs (byteCells A)++ofDs (byteCells R)=ofDs (byteCells (A++R)):=by simp[ofDs,byteCells]
    have hg4':=hg4
    rw[hcat]at hg4'
    obtain⟨hb,hf,_⟩:=hg4'.byt
    refine⟨?_,hf⟩
    rcases hj4 with h | ⟨q,h,hq⟩
    · refine hb.row fun r hr=> ?_
      have hxr:x.1=some r:=by rw[← h,← hf,hr]
      obtain⟨c,k1,k2⟩:=lay5 r hxr
      obtain⟨tail,k3⟩:=hg4.inRow (h.trans hxr)
      rw[k3]at k1
      obtain rfl:=Option.some.inj k1
      have hsame:lay (ofDs (byteCells A)++ofDs (byteCells R)++tail) (x.2.2.length * 1) (ofDs (byteCells R))=ofDs (byteCells A)++ofDs (byteCells R)++tail:=by
        rw[Nat.mul_one,← hAc]
        exact lay_same _ _ _
      rw[k3]
      rcases k2 with k2 | k2
      · exact k2
      · rw[k2,hsame]
    · refine hb.gr gr5 fun r hr e=> ?_
      rw[hf,h]at hr
      obtain rfl:=Option.some.inj hr
      have:=hl.lt e
      omega
  -- what the others hold is bytes
  have hnew:∀ {u:St} {j:Option Nat},s.heap.length≤u.heap.length→(∀ {u':St},(j=x.1∨∃ i,j=some i∧u.heap.length≤i∧i < u'.heap.length)→(j=x.1∨∃ r,j=some r∧s.heap.length≤r)):=by
    intro u j hu u' h
    rcases h with h | ⟨q,h,h1,_⟩
    · exact .inl h
    · exact .inr ⟨q,h,by omega⟩
  have k1:∃ L,Byt t5 g1 L∧L.length≤2199023255552:=by
    have he:ofDs (byteCells A)++ofDs [D.i .u8 y1.toNat]=ofDs (byteCells (A++ [y1])):=by simp[ofDs,byteCells]
    rw[he]at lg1
    obtain⟨L,hL⟩:=(lg1.byt).1.known (G12.trans (G23.trans (hgr.trans G45)))
    refine⟨L,hL,?_⟩
    rw[hL.leng (lg1.byt).1,List.length_append,hAl]
    simp only[List.length_cons,List.length_nil]
    omega
  have k2:∃ L,Byt t5 g2 L∧L.length≤2199023255552:=by
    have he:ofDs (byteCells A)++ofDs [D.i .u8 y2.toNat,D.i .u8 y3.toNat]=ofDs (byteCells (A++ [y2,y3])):=by simp[ofDs,byteCells]
    rw[he]at lg2
    obtain⟨L,hL⟩:=(lg2.byt).1.known (G23.trans (hgr.trans G45))
    refine⟨L,hL,?_⟩
    rw[hL.leng (lg2.byt).1,List.length_append,hAl]
    simp only[List.length_cons,List.length_nil]
    omega
  have k3:∃ L,Byt t5 g3 L∧L.length≤2199023255552:=by
    have he:ofDs (byteCells A)++ofDs [D.i .u8 y4.toNat,D.i .u8 y5.toNat,D.i .u8 y6.toNat]=ofDs (byteCells (A++ [y4,y5,y6])):=by simp[ofDs,byteCells]
    rw[he]at lg3
    obtain⟨L,hL⟩:=(lg3.byt).1.known (hgr.trans G45)
    refine⟨L,hL,?_⟩
    rw[hL.leng (lg3.byt).1,List.length_append,hAl]
    simp only[List.length_cons,List.length_nil]
    omega
  have k5:∃ L,Byt t5 g5 L∧L.length≤2199023255552:=by
    have he:ofDs (byteCells A)++ofDs (byteCells R)=ofDs (byteCells (A++R)):=by simp[ofDs,byteCells]
    rw[he]at lg5
    exact⟨_,(lg5.byt).1,by rw[List.length_append,hAl];omega⟩
  have bx:Byt t5 x.2.1 A∧foot x.2.1=x.1:=⟨(hl5.byt).1,(hl5.byt).2.1⟩
  -- rows of no label
  have hfr:∀ (g:V) (j:Option Nat),foot g=j→(j=x.1∨∃ r,j=some r∧s.heap.length≤r)→Free (upd lab (i+6) none) g:=by
    intro g j hf hj r hr a ha
    by_cases hai:a=i+6
    · subst hai;rw[upd_eq]at ha;cases ha
    · rw[upd_ne hai]at ha
      rw[hf]at hr
      rcases hj with h | ⟨q,h,hq⟩
      · exact hai (hw.bi.labs.sep a (i+6) r ha (by rw[hli,← h,hr]))
      · rw[h]at hr
        obtain rfl:=Option.some.inj hr
        have:=hw.bi.labs.lt a _ ha
        omega
  have hsl:=hw.gr.len
  have hold:∀ (g:V) (j:Option Nat),foot g=j→(j=x.1∨∃ r,j=some r∧s.heap.length≤r)→∀ r,foot g=some r→OldR st p b r:=by
    intro g j hf hj r hr
    rw[hf]at hr
    rcases hj with h | ⟨q,h,hq⟩
    · rcases hw.lo (i+6) r (by rw[hli,← h,hr]) with e | e
      · exact .inr (.inl e)
      · exact .inr (.inr e)
    · rw[h]at hr
      obtain rfl:=Option.some.inj hr
      exact .inr (.inr (by omega))
  have fg1:Free (upd lab (i+6) none) g1:=by
    have he:ofDs (byteCells A)++ofDs [D.i .u8 y1.toNat]=ofDs (byteCells (A++ [y1])):=by simp[ofDs,byteCells]
    rw[he]at lg1
    exact hfr g1 j1 (lg1.byt).2.1 (hnew (u:=s) (Nat.le_refl _) nw1)
  have og1:∀ r,foot g1=some r→OldR st p b r:=by
    have he:ofDs (byteCells A)++ofDs [D.i .u8 y1.toNat]=ofDs (byteCells (A++ [y1])):=by simp[ofDs,byteCells]
    rw[he]at lg1
    exact hold g1 j1 (lg1.byt).2.1 (hnew (u:=s) (Nat.le_refl _) nw1)
  have fg2:Free (upd lab (i+6) none) g2:=by
    have he:ofDs (byteCells A)++ofDs [D.i .u8 y2.toNat,D.i .u8 y3.toNat]=ofDs (byteCells (A++ [y2,y3])):=by simp[ofDs,byteCells]
    rw[he]at lg2
    exact hfr g2 j2 (lg2.byt).2.1 (hnew G1.len nw2)
  have og2:∀ r,foot g2=some r→OldR st p b r:=by
    have he:ofDs (byteCells A)++ofDs [D.i .u8 y2.toNat,D.i .u8 y3.toNat]=ofDs (byteCells (A++ [y2,y3])):=by simp[ofDs,byteCells]
    rw[he]at lg2
    exact hold g2 j2 (lg2.byt).2.1 (hnew G1.len nw2)
  have fg3:Free (upd lab (i+6) none) g3:=by
    have he:ofDs (byteCells A)++ofDs [D.i .u8 y4.toNat,D.i .u8 y5.toNat,D.i .u8 y6.toNat]=ofDs (byteCells (A++ [y4,y5,y6])):=by simp[ofDs,byteCells]
    rw[he]at lg3
    exact hfr g3 j3 (lg3.byt).2.1 (hnew G2.len nw3)
  have og3:∀ r,foot g3=some r→OldR st p b r:=by
    have he:ofDs (byteCells A)++ofDs [D.i .u8 y4.toNat,D.i .u8 y5.toNat,D.i .u8 y6.toNat]=ofDs (byteCells (A++ [y4,y5,y6])):=by simp[ofDs,byteCells]
    rw[he]at lg3
    exact hold g3 j3 (lg3.byt).2.1 (hnew G2.len nw3)
  have fg5:Free (upd lab (i+6) none) g5:=by
    have he:ofDs (byteCells A)++ofDs (byteCells R)=ofDs (byteCells (A++R)):=by simp[ofDs,byteCells]
    rw[he]at lg5
    exact hfr g5 j5 (lg5.byt).2.1 (hnew Gs'.len nw5)
  have og5:∀ r,foot g5=some r→OldR st p b r:=by
    have he:ofDs (byteCells A)++ofDs (byteCells R)=ofDs (byteCells (A++R)):=by simp[ofDs,byteCells]
    rw[he]at lg5
    exact hold g5 j5 (lg5.byt).2.1 (hnew Gs'.len nw5)
  have fg4:Free (upd lab (i+6) none) g4:=hfr g4 j4 b4.2 hj4
  have og4:=hold g4 j4 b4.2 hj4
  have ox:=hold x.2.1 x.1 bx.2 (.inl rfl)
  have fx:Free (upd lab (i+6) none) x.2.1:=hfr x.2.1 x.1 bx.2 (.inl rfl)
  have bi5:=(hBI G5).drop (a:=i+6) (by omega) (by omega) (by omega) (by omega)
  have m25:t5.row jM=some cM:=(hlabF G5 3 (by omega) jM (by rw[hw.l3,hjM])).trans m2
  have gp:Gr t5 (t5.push (.row [g1,g2,g3,g5])) (fun _=> False) (fun _=> True):= .push _
  have bi6:=bi5.gr gp fun r _ h=> h.elim
  have hv6:vwV 1 (t5.push (.row [g1,g2,g3,g5])) (.rsl 1 t5.heap.length 0 4 4)=some (4,[g1,g2,g3,g5]):=by simp[vwV]
  have hb6:∀ {g:V} {L:List UInt8},Byt t5 g L→Byt (t5.push (.row [g1,g2,g3,g5])) g L:=fun hb=> hb.gr gp fun _ _ h=> h
  obtain⟨L1,o1,q1⟩:=k1
  obtain⟨L2,o2,q2⟩:=k2
  obtain⟨L3,o3,q3⟩:=k3
  obtain⟨L5,o5,q5⟩:=k5
  have p1:=foot_one o1
  have p2:=foot_one o2
  have p3:=foot_one o3
  have p5:=foot_one o5
  have hkl:=hw.kl
  have hgl:=hw.gl
  have hks:=h.small.2
  simp[wBook,p1,p2,p3,p5,fillV,reps,ofDs,lay]
  refine bi6.grow (gs:= [g1,g2,g3,g5]) (fun g hg=> ?_) (by simp;omega) hv6 ?_
  · simp only[List.mem_cons,List.not_mem_nil,or_false]at hg
    rcases hg with rfl | rfl | rfl | rfl
    · exact⟨⟨L1,hb6 o1,q1⟩,fg1⟩
    · exact⟨⟨L2,hb6 o2,q2⟩,fg2⟩
    · exact⟨⟨L3,hb6 o3,q3⟩,fg3⟩
    · exact⟨⟨L5,hb6 o5,q5⟩,fg5⟩
  intro s7 G7 jG bi7 gr7 n7
  have hrow7:=bi7.row
  have hM7:s7.row jM=some cM:=by
    have hlab3:upd lab (i+6) none 3=some jM:=by rw[upd_ne (by omega),hw.l3,hjM]
    have hlt6:jM < (t5.push (.row [g1,g2,g3,g5])).heap.length:=bi6.labs.lt 3 jM hlab3
    rw[gr7.keep jM hlt6 fun e=> by have:=bi6.labs.sep 2 3 jM e hlab3;omega,row_old (row_lt m25)]
    exact m25
  have hxl:lenV x.2.1=some x.2.2.length:=hl.len
  have hmkA:=fun s=> den_marked hp (st:=s) x.2.2.length m hsz
  rw[hA]at hmkA
  simp[wBook,hrow7,hM7,m1,m3,m4,hxl,hmkA]
  -- the list is kept
  have fA:∀ (lab':Nat→Option Nat),Free lab' (bsl true A):=fun _ r hr=> by cases hr
  have byA:∀ u,Byt u (bsl true A) A:=fun u=> ⟨hAl ▸ rfl,rfl⟩
  have toS7:∀ {g:V} {L:List UInt8},Byt t5 g L→Free (upd lab (i+6) none) g→Byt s7 g L:=fun hb hf=> (hb6 hb).gr gr7 fun r hr e=> hf r hr 2 e
  refine bi7.keep hp (toS7 bx.1 fx) (byA s7) (fx.set (hb6 bx.1) n7) (fA _) (by omega) ?_
  intro s8 K8 W8 a4 a5 bi8 gr8 n4 n5
  have toS8:∀ {g:V} {L:List UInt8},Byt s7 g L→Free (upd (upd lab (i+6) none) 2 jG) g→Byt s8 g L:=fun hb hf=> hb.gr gr8 fun r hr e=> by
    rcases e with e | e | e
    · exact hf r hr 0 e
    · exact hf r hr 4 e
    · exact hf r hr 5 e
  have hrow8:=bi8.row
  have hM8:s8.row jM=some cM:=by
    have hlab3:upd (upd lab (i+6) none) 2 jG 3=some jM:=by rw[upd_ne (by omega),upd_ne (by omega),hw.l3,hjM]
    rw[gr8.keep jM (row_lt hM7) fun e=> by
     rcases e with e | e | e
     · have:=bi7.labs.sep 0 3 jM e hlab3;omega
     · have:=bi7.labs.sep 4 3 jM e hlab3;omega
     · have:=bi7.labs.sep 5 3 jM e hlab3;omega]
    exact hM7
  have hmkR:=den_markedR hp bi8.fl x.2.2.length m hsz
  rw[hA]at hmkR
  simp[wBook,hrow8,hM8,m1,m3,m4,hxl]
  refine CallW.of_den hmkR ?_
  simp[wBook]
  have gp9:Gr s8 (s8.push (.row (ofDs (byteCells A)))) (fun _=> False) (fun _=> True):= .push _
  have bi9:=bi8.gr gp9 fun r _ h=> h.elim
  have l9:LR (s8.push (.row (ofDs (byteCells A)))) 1 (.rsl 1 s8.heap.length 0 x.2.2.length x.2.2.length) x.2.2.length (ofDs (byteCells A)) (some s8.heap.length):=
    ⟨by rw[hAc,Nat.mul_one],.inr ⟨s8.heap.length,x.2.2.length,[],rfl,rfl,Nat.le_refl _,by rw[row_push_new rfl,List.append_nil],by simp⟩⟩
  refine appW_LR bi9.fl l9 (show vwV 1 _ (bsl true R)=some (R.length,ofDs (byteCells R)) from rfl) (by rw[hRc,Nat.mul_one]) rfl (by omega) (by omega) ?_
  intro s10 w4 jw lw4 gr10 nw10
  have g810:Gr s8 s10 (fun r=> s8.heap.length≤r) (fun _=> True):=(Gr.push _).trans (gr10.mono (fun r _ e=> by
    obtain rfl:=Option.some.inj e
    exact Nat.le_refl _) fun _ _=> trivial)
  have bi10:=bi8.gr g810 fun r hr h=> absurd h (by omega)
  have hcat:ofDs (byteCells A)++ofDs (byteCells R)=ofDs (byteCells (A++R)):=by simp[ofDs,byteCells]
  rw[hcat]at lw4
  have bw4:=lw4.byt
  simp[wBook]
  have toS10:∀ {g:V} {L:List UInt8},Byt s8 g L→Byt s10 g L:=fun hb=> hb.gr g810 fun r hr h=> by
    have:=hb.lt hr
    omega
  have b47:=toS7 b4.1 fg4
  have f47:=fg4.set (hb6 b4.1) n7
  have b48:=toS8 b47 f47
  have f48:=(f47.set b47 n4).set (s':=s8) b47 (a:=5) (j:=a5) (by rw[upd_ne (by omega)];exact n5)
  have fw4:Free (upd (upd (upd (upd lab (i+6) none) 2 jG) 4 a4) 5 a5) w4:=by
    intro r hr a ha
    have hlt:=bi8.labs.lt a r ha
    rw[bw4.2.1]at hr
    rcases nw10 with e | ⟨q,e,hq,_⟩
    · rw[e]at hr
      obtain rfl:=Option.some.inj hr
      omega
    · rw[e]at hr
      obtain rfl:=Option.some.inj hr
      simp at hq
      omega
  refine bi10.keep hp (toS10 b48) bw4.1 f48 fw4 (by simp;omega) ?_
  intro s11 K11 W11 c4 c5 bi11 gr11 n14 n15
  have h1:IntKind.wrap .i64 ((i:Int)+1)=i+1:=wrap_i64 (by omega) (by omega)
  simp[h1]
  -- what has changed of the state
  have gr8':Gr s7 s8 (fun r=> (∃ a,a≠i+6∧a≠1∧a≠3∧a < 6∧upd (upd lab (i+6) none) 2 jG a=some r)) (fun _=> True):=gr8.mono (fun r _ e=> by
    rcases e with e | e | e
    · exact⟨0,by omega,by omega,by omega,by omega,e⟩
    · exact⟨4,by omega,by omega,by omega,by omega,e⟩
    · exact⟨5,by omega,by omega,by omega,by omega,e⟩) fun _ _=> trivial
  have small:∀ a r,a=0∨a=2∨a=4∨a=5→lab a=some r→∃ a,(a=0∨a=2∨a=4∨a=5∨a=i+6)∧lab a=some r:=fun a r ha hr=> ⟨a,by omega,hr⟩
  let A11:Nat→Prop:=fun r=> (∃ a,(a=0∨a=2∨a=4∨a=5∨a=i+6)∧lab a=some r)∨s.heap.length≤r
  have L5:=G5.len
  have hlen6:(t5.push (.row [g1,g2,g3,g5])).heap.length=t5.heap.length+1:=by simp
  have L7:=gr7.len
  have L8:=gr8.len
  have L10:=g810.len
  have GG:Gr s s11 A11 (fun _=> True):=by
    refine(G5.mono (fun r hr e=> ?_) fun _ _=> trivial).trans (((Gr.push _)).trans ((gr7.mono (fun r hr e=> ?_) fun _ _=> trivial).trans ((gr8.mono (fun r hr e=> ?_) fun _ _=> trivial).trans ((g810.mono (fun r hr e=> .inr (by omega)) fun _ _=> trivial).trans (gr11.mono (fun r hr e=> ?_) fun _ _=> trivial)))))
    · rcases e with e | e
      · exact .inl ⟨i+6,by omega,by rw[hli,e]⟩
      · exact .inr e
    · rw[upd_ne (by omega)]at e
      exact .inl ⟨2,by omega,e⟩
    · rcases e with e | e | e
      · rw[upd_ne (by omega),upd_ne (by omega)]at e
        exact .inl ⟨0,by omega,e⟩
      · rw[upd_ne (by omega),upd_ne (by omega)]at e
        exact .inl ⟨4,by omega,e⟩
      · rw[upd_ne (by omega),upd_ne (by omega)]at e
        exact .inl ⟨5,by omega,e⟩
    · rcases e with e | e | e
      · rw[upd_ne (by omega),upd_ne (by omega),upd_ne (by omega),upd_ne (by omega)]at e
        exact .inl ⟨0,by omega,e⟩
      · rw[upd_ne (by omega),upd_eq]at e
        rcases n4 with h | ⟨q,h,hq,_⟩
        · rw[h,upd_ne (by omega),upd_ne (by omega)]at e
          exact .inl ⟨4,by omega,e⟩
        · rw[h]at e
          obtain rfl:=Option.some.inj e
          exact .inr (by omega)
      · rw[upd_eq]at e
        rcases n5 with h | ⟨q,h,hq,_⟩
        · rw[h,upd_ne (by omega),upd_ne (by omega)]at e
          exact .inl ⟨5,by omega,e⟩
        · rw[h]at e
          obtain rfl:=Option.some.inj e
          exact .inr (by omega)
  have stay:∀ a r,a≠0→a≠2→a≠4→a≠5→a≠i+6→lab a=some r→¬ A11 r:=by
    intro a r h0 h2 h4 h5 h6 hr e
    rcases e with⟨c,hc,e⟩ | e
    · have:=hw.bi.labs.sep a c r hr e
      omega
    · have:=hw.bi.labs.lt a r hr
      omega
  have hlo0:∀ a r,lab a=some r→(∃ c,b.lab p c=some r)∨st.heap.length≤r:=hw.lo
  refine⟨b.fr.length - (i+1),by omega,i+1,by omega,rfl,K11,W11,G7,⟨rfl,rfl⟩,_,_,_,_,bi11,?_,?_,?_,?_,?_,?_,?_,?_,?_,?_,?_⟩
  · rw[upd_ne (by omega),upd_ne (by omega),upd_ne (by omega),upd_ne (by omega),upd_ne (by omega),upd_ne (by omega)];exact hw.l1
  · rw[upd_ne (by omega),upd_ne (by omega),upd_ne (by omega),upd_ne (by omega),upd_ne (by omega),upd_ne (by omega)];exact hw.l3
  · intro t ht
    rw[upd_ne (by omega),upd_ne (by omega),upd_ne (by omega),upd_ne (by omega),upd_ne (by omega),upd_ne (by omega)];exact hw.lf t (by omega)
  · exact hw.F.gr GG fun r hr=> stay 1 r (by omega) (by omega) (by omega) (by omega) (by omega) (hw.l1.trans hr)
  · exact hw.M.gr GG fun r hr=> stay 3 r (by omega) (by omega) (by omega) (by omega) (by omega) (hw.l3.trans hr)
  · intro t y hy hle
    exact(hw.fr t y hy (by omega)).gr GG fun r hr=> stay (t+6) r (by omega) (by omega) (by omega) (by omega) (by omega) (by rw[hw.lf t (by omega),hy];exact hr)
  · refine hw.gr.trans (GG.mono (fun r _ e=> ?_) fun _ _=> trivial)
    rcases e with⟨c,_,e⟩ | e
    · exact hlo0 c r e
    · exact .inr (by omega)
  · have l1:=lo_upd (a:=i+6) (j:=none) hlo0 (fun r hr=> by cases hr)
    have l2:=lo_upd l1 (a:=2) (j:=jG) (n7.lo l1 (by omega))
    have l3:=lo_upd l2 (a:=4) (j:=a4) (n4.lo l2 (by omega))
    have l4:=lo_upd l3 (a:=5) (j:=a5) (n5.lo l2 (by omega))
    have l5:=lo_upd l4 (a:=4) (j:=c4) (n14.lo l4 (by omega))
    exact lo_upd l5 (a:=5) (j:=c5) (n15.lo l4 (by omega))
  · have:=hw.kl
    simp only[List.length_append,List.length_singleton]
    omega
  · simp only[List.length_append,List.length_cons,List.length_nil]
    omega
  · intro v hv r hr
    simp only[List.mem_append,List.mem_singleton,List.mem_cons,List.not_mem_nil,or_false]at hv
    rcases hv with((hv | rfl) | rfl) | ((hv | rfl) | rfl) | hv | rfl | rfl | rfl | rfl
    · exact hw.vo v (.inl hv) r hr
    · exact ox r hr
    · exact og4 r hr
    · exact hw.vo v (.inr (.inl hv)) r hr
    · cases hr
    · rw[bw4.2.1]at hr
      rcases nw10 with e | ⟨q,e,hq,_⟩
      · rw[e]at hr
        obtain rfl:=Option.some.inj hr
        exact .inr (.inr (by omega))
      · rw[e]at hr
        obtain rfl:=Option.some.inj hr
        simp at hq
        exact .inr (.inr (by omega))
    · exact hw.vo v (.inr (.inr hv)) r hr
    · exact og1 r hr
    · exact og2 r hr
    · exact og3 r hr
    · exact og5 r hr
end
end Go.Sh
