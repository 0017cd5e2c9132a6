/- Part of the proof. -/
import Derived.Test.YtpgipjjhapapjaaShBe
import Derived.Test.YtpgipjjhapapjaaShFlaw0
set_option linter.unusedVariables false
set_option linter.unusedSimpArgs false
namespace Go.Sh
def bookFns:List (Nat×SFn):= [(127,F127),(128,F128),(123,F123),(132,F132),(130,F130),(126,F126),(131,F131),(133,F133),(35,F35)]
structure Bk where
  count:Int
  total:Int
  F:V
  H:V
  M:V
  K:V
  W:V
  jF:Option Nat
  jH:Option Nat
  jM:Option Nat
  jK:Option Nat
  jW:Option Nat
  fr:List (Option Nat×V×List UInt8)
  marks:List Int
  kv:List V
  wv:List V
def Bk.cells (b:Bk):List V:= [.d (.i .i64 b.count),.d (.i .i64 b.total),.d (.b false),b.F,b.H,b.M,b.K,b.W]
def Bk.lab (b:Bk)(p:Nat):Nat→Option Nat
  | 0=> some p
  | 1=> b.jF
  | 2=> b.jH
  | 3=> b.jM
  | 4=> b.jK
  | 5=> b.jW
  | a+6=> (b.fr[a]?).bind (·.1)
structure BkI (st:St)(p:Nat)(b:Bk):Prop where
  fl:st.floor=0
  row:st.row p=some b.cells
  F:LR st 1 b.F b.fr.length (b.fr.map fun x=> x.2.1) b.jF
  H:LR st 1 b.H b.fr.length (b.fr.map fun x=> bsl true x.2.2) b.jH
  M:LR st 1 b.M b.fr.length (b.marks.map fun m=> .d (.i .i64 m)) b.jM
  K:LR st 1 b.K b.kv.length b.kv b.jK
  W:LR st 1 b.W b.kv.length b.wv b.jW
  fr:∀ x∈b.fr,LR st 1 x.2.1 x.2.2.length (ofDs (byteCells x.2.2)) x.1
  kw:∀ (i:Nat) k w,b.kv[i]? =some k→b.wv[i]? =some w→∃ L,Byt st k L∧Byt st w L
  sep:∀ a c i,b.lab p a=some i→b.lab p c=some i→a=c
  out:∀ v,v∈b.kv∨v∈b.wv→∀ j,foot v=some j→∀ a,b.lab p a≠some j
  small:b.fr.length≤3∧b.kv.length≤900000000
  size:∀ x∈b.fr,x.2.2.length≤1099511627776
  total:0≤b.total
theorem LR.get {st:St}{v:V}{n:Nat}{cells:List V}{j:Option Nat}(h:LR st 1 v n cells j)(i:Nat){x:V}(hx:cells[i]? =some x){k:IntKind}:∃ j0 c,j=some j0∧iaddrV 1 v (.d (.i k (i:Int)))=some (.ptr j0 i)∧st.row j0=some c∧i+1≤c.length∧(c.drop i).take 1= [x]:=by
  have hlt:=(List.getElem?_eq_some_iff.1 hx).1
  obtain⟨j0,h1,h2⟩:=h.iaddr (k:=k) (i:=i) (by have:=h.1;omega)
  obtain⟨tail,h3⟩:=h.inRow h1
  have hl:i < (cells++tail).length:=by rw[List.length_append];omega
  refine⟨j0,_,h1,by simpa using h2,h3,by omega,?_⟩
  rw[List.drop_eq_getElem_cons hl,List.take_succ_cons,List.take_zero,List.getElem_append_left hlt]
  rw[(List.getElem?_eq_some_iff.1 hx).2]
section
variable {pr:Prog}(hp:Sub bookFns pr){st:St}{p:Nat}{b:Bk}
include hp
theorem den_untouched (h:BkI st p b):den pr 127 [.ptr p 0] st=some (.tup [],st):=by
  rw[den_fn (hp.at 0 rfl) rfl rfl,start_raw _ rfl]
  have hrow:=h.row
  simp only[Bk.cells]at hrow
  have hlen:=h.F.len
  have hput:st.setBlk p (.row [.d (.i .i64 b.count),.d (.i .i64 b.total),.d (.b false),b.F,b.H,b.M,b.K,b.W])=some st:=by rw[setBlk_put h.fl,put_self hrow]
  simp[F127]
  generalize hL:cden pr (.loop _ _ _) _ _=o
  obtain⟨r,rfl,hQ⟩:∃ r,o=some r∧∃ e,r=(.exit 0,e,st):=by
    rw[← hL]
    refine loop_n b.fr.length (fun i=> [(0,.ptr p 0),(2,.d (.i .i64 i))]) (fun _=> st) ?_ (by simp) rfl
    intro i hi
    have hsm:=h.small.1
    rcases Nat.lt_or_ge i b.fr.length with hlt | hge
    · obtain⟨x,hx⟩:∃ x,b.fr[i]? =some x:=⟨_,List.getElem?_eq_getElem hlt⟩
      obtain⟨jF,cF,_,f1,f2,f5,f6⟩:=h.F.get i (x:=x.2.1) (by simp[hx]) (k:= .i64)
      obtain⟨jH,cH,_,f3,f4,f7,f8⟩:=h.H.get i (x:=bsl true x.2.2) (by simp[hx]) (k:= .i64)
      have hb:=((h.fr x (List.mem_of_getElem? hx)).byt).1.b2s
      have h1:IntKind.wrap .i64 ((i:Int)+1)=i+1:=wrap_i64 (by omega) (by omega)
      simp[F127_b0,hrow,hlen,hlt,f1,f2,f3,f4,f5,f6,f7,f8,hb,lay,hput,h1]
    · have:i=b.fr.length:=by omega
      simp[F127_b0,hrow,hlen,this]
  obtain⟨e,rfl⟩:=hQ
  simp
theorem den_same (h:BkI st p b):den pr 128 [.ptr p 0] st=some (.d (.b true),st):=by
  rw[den_fn (hp.at 1 rfl) rfl rfl,start_raw _ rfl]
  have hrow:=h.row
  simp only[Bk.cells]at hrow
  have hlen:=h.K.len
  simp[F128]
  generalize hL:cden pr (.loop _ _ _) _ _=o
  obtain⟨r,rfl,hQ⟩:∃ r,o=some r∧∃ e,r=(.exit 0,e,st):=by
    rw[← hL]
    refine loop_n b.kv.length (fun i=> [(0,.ptr p 0),(3,.d (.i .i64 i))]) (fun _=> st) ?_ (by simp) rfl
    intro i hi
    have hsm:=h.small.2
    rcases Nat.lt_or_ge i b.kv.length with hlt | hge
    · obtain⟨k,hk⟩:∃ k,b.kv[i]? =some k:=⟨_,List.getElem?_eq_getElem hlt⟩
      obtain⟨w,hw⟩:∃ w,b.wv[i]? =some w:=⟨_,List.getElem?_eq_getElem (by have:=h.W.1;omega)⟩
      obtain⟨jF,cF,_,f1,f2,f5,f6⟩:=h.K.get i hk (k:= .i64)
      obtain⟨jH,cH,_,f3,f4,f7,f8⟩:=h.W.get i hw (k:= .i64)
      obtain⟨L,hb1,hb2⟩:=h.kw i k w hk hw
      have hb1:=hb1.b2s
      have hb2:=hb2.b2s
      have h1:IntKind.wrap .i64 ((i:Int)+1)=i+1:=wrap_i64 (by omega) (by omega)
      simp[F128_b0,hrow,hlen,hlt,f1,f2,f3,f4,f5,f6,f7,f8,hb1,hb2,lay,h1]
    · have:i=b.kv.length:=by omega
      simp[F128_b0,hrow,hlen,this]
  obtain⟨e,rfl⟩:=hQ
  simp
theorem den_Holds (h:BkI st p b):den pr 123 [.ptr p 0] st=some (.d (.b true),st):=by
  rw[den_fn (hp.at 2 rfl) rfl rfl,start_raw _ rfl]
  have hrow:=h.row
  simp only[Bk.cells]at hrow
  have h1:=den_untouched hp h
  have h2:=den_same hp h
  simp[F123,hrow,h1,h2]
omit hp in
theorem vwV_lit (st:St)(k:V):vwV 1 (st.push (.row [k])) (.rsl 1 st.heap.length 0 1 1)=some (1,[k]):=by
  simp[vwV]
def wBook:Nat→Bool:=fun f=> f==130 || f==132 || f==133 || f==35
omit hp in
theorem LR.one {st:St}{sz n:Nat}{v:V}{cells:List V}{j:Option Nat}(h:LR st sz v n cells j):v.ok1=true∧v.cs= [v]:=by
  obtain⟨_,⟨rfl,rfl,rfl⟩ | ⟨j0,cap,tail,rfl,rfl,_⟩⟩:=h <;> exact⟨rfl,rfl⟩
def NewOr (st s:St)(j j':Option Nat):Prop:=j'=j∨∃ i,j'=some i∧st.heap.length≤i∧i < s.heap.length
theorem callW_keep {c t bad F H M K W k w:V}{n:Nat}{kv wv:List V}{jK jW:Option Nat}{Q:V→St→Prop}(hfl:st.floor=0)(hrow:st.row p=some [c,t,bad,F,H,M,K,W])(hK:LR st 1 K n kv jK)(hW:LR st 1 W n wv jW)
    (hpK:jK≠some p) (hpW:jW≠some p) (hKW:∀ i,jK=some i→jW≠some i) (hn:n≤1000000000) (hk:k.ok1=true∧k.cs= [k]) (hw:w.ok1=true∧w.cs= [w])
    (hQ:∀ s K' W' jK' jW',s.row p=some [c,t,bad,F,H,M,K',W']→LR s 1 K' (n+1) (kv++ [k]) jK'→LR s 1 W' (n+1) (wv++ [w]) jW'→
      Gr st s (fun i=> i=p∨jK=some i∨jW=some i) (fun _=> True)→NewOr st s jK jK'→NewOr st s jW jW'→(∀ i,jK'=some i→jW'≠some i)→Q (.tup []) s):CallW pr 132 [.ptr p 0,k,w] st Q:=by
  refine .run wBook (hp.at 3 rfl) rfl ?_
  rw[start_raw _ rfl]
  refine codeC_of ?_
  have hpl:=row_lt hrow
  have hv:=vwV_lit st k
  simp[F132,hrow,hpl,fillV,reps,ofDs,hk,lay,hv]
  have hK0:LR (st.push (.row [k])) 1 K n kv jK:=hK.gr (A:=fun _=> False) (P:=fun _=> True) (.push _) fun _ _ h=> h
  refine appW_LR (by simpa using hfl) hK0 hv (by simp) rfl (by omega) (by omega) ?_
  intro s1 K1 j1 l1 gr1 nw1
  have hrow1:s1.row p=some [c,t,bad,F,H,M,K,W]:=by
    rw[gr1.keep p (by simp;omega) (fun h=> hpK h),row_old hpl]
    exact hrow
  have hlen1:st.heap.length+1≤s1.heap.length:=by simpa using gr1.len
  have hfl1:s1.floor=0:=by rw[gr1.floor];exact hfl
  have hset:∀ cs,s1.setBlk p (.row cs)=some (s1.put p cs):=fun cs=> setBlk_put hfl1
  have hpl1:p < s1.heap.length:=by omega
  -- behind the first list
  have g1:Gr st (s1.put p [c,t,bad,F,H,M,K1,W]) (fun i=> i=p∨jK=some i∨jW=some i) (fun _=> True):=
    (Gr.push _).trans ((gr1.mono (fun i _ h=> .inr (.inl h)) fun _ _=> trivial).trans (Gr.put hrow1 rfl (.inl rfl) fun _ _ _=> .inr trivial))
  have hj1p:∀ i,j1=some i→i≠p:=by
    rintro i hi rfl
    rcases nw1 with h | ⟨i',h,h2,_⟩
    · exact hpK (h ▸ hi)
    · rw[hi]at h
      obtain rfl:=Option.some.inj h
      simp at h2
      omega
  have l2:LR (s1.put p [c,t,bad,F,H,M,K1,W]) 1 K1 (n+1) (kv++ [k]) j1:=l1.row fun i hi=> row_put_ne (hj1p i hi)
  have hW2:LR (s1.put p [c,t,bad,F,H,M,K1,W]) 1 W n wv jW:=by
    refine(hW.row (s1:=s1) fun i hi=> ?_).row fun i hi=> row_put_ne fun e=> hpW (by rw[hi,e])
    have hlt:=hW.lt hi
    rw[gr1.keep i (by simp;omega) (fun h=> hKW i h hi),row_old hlt]
  have hrow2:(s1.put p [c,t,bad,F,H,M,K1,W]).row p=some [c,t,bad,F,H,M,K1,W]:=row_put_eq hpl1
  have hk1:=l1.one
  generalize hs2:s1.put p [c,t,bad,F,H,M,K1,W]=s2 at *
  have hpl2:p < s2.heap.length:=row_lt hrow2
  have hv2:=vwV_lit s2 w
  simp[hrow1,hset,lay,hk1,hs2,hrow2,hpl2,fillV,reps,ofDs,hw]
  have hfl2:s2.floor=0:=by rw[← hs2];exact hfl1
  have hW3:LR (s2.push (.row [w])) 1 W n wv jW:=hW2.gr (A:=fun _=> False) (P:=fun _=> True) (.push _) fun _ _ h=> h
  refine appW_LR (by simpa using hfl2) hW3 hv2 (by simp) rfl (by omega) (by omega) ?_
  intro s3 W1 j3 l3 gr3 nw3
  have hrow3:s3.row p=some [c,t,bad,F,H,M,K1,W]:=by
    rw[gr3.keep p (by simp;omega) (fun h=> hpW h),row_old hpl2]
    exact hrow2
  have hlen3:s2.heap.length+1≤s3.heap.length:=by simpa using gr3.len
  have hlen2:s2.heap.length=s1.heap.length:=by rw[← hs2];simp
  have hset3:∀ cs,s3.setBlk p (.row cs)=some (s3.put p cs):=fun cs=> setBlk_put (by rw[gr3.floor];exact hfl2)
  have hw1:=l3.one
  simp[hrow3,hset3,lay,hw1,FinW]
  have hj3p:∀ i,j3=some i→i≠p:=by
    rintro i hi rfl
    rcases nw3 with h | ⟨i',h,h2,_⟩
    · exact hpW (h ▸ hi)
    · rw[hi]at h
      obtain rfl:=Option.some.inj h
      simp at h2
      omega
  have hj1l:∀ i,j1=some i→i < s1.heap.length:=fun i hi=> l1.lt hi
  have hj13:∀ i,j1=some i→j3≠some i:=by
    intro i hi hi3
    have hil:=hj1l i hi
    rcases nw3 with h | ⟨i',h,h2,_⟩
    · rw[h]at hi3
      rcases nw1 with h1 | ⟨i1,h1,h4,_⟩
      · exact hKW i (h1 ▸ hi) hi3
      · rw[hi]at h1
        obtain rfl:=Option.some.inj h1
        have:=hW.lt hi3
        simp at h4
        omega
    · rw[hi3]at h
      obtain rfl:=Option.some.inj h
      simp at h2
      omega
  refine hQ (s3.put p [c,t,bad,F,H,M,K1,W1]) K1 W1 j1 j3 (row_put_eq (by omega)) ?_ (l3.row fun i hi=> row_put_ne (hj3p i hi)) ?_ ?_ ?_ hj13
  · refine(l2.row (s1:=s3) fun i hi=> ?_).row fun i hi=> row_put_ne (hj1p i hi)
    have hlt:=l2.lt hi
    have hne:jW≠some i:=by
      intro hjw
      rcases nw1 with h1 | ⟨i1,h1,h4,_⟩
      · exact hKW i (h1 ▸ hi) hjw
      · rw[hi]at h1
        obtain rfl:=Option.some.inj h1
        have:=hW.lt hjw
        simp at h4
        omega
    rw[gr3.keep i (by simp;omega) hne,row_old hlt]
  · refine g1.trans ((Gr.push _).trans ((gr3.mono (fun i _ h=> .inr (.inr h)) fun _ _=> trivial).trans (Gr.put hrow3 rfl (.inl rfl) fun _ _ _=> .inr trivial)))
  · rcases nw1 with h | ⟨i,h,h2,h3⟩
    · exact .inl h
    · simp at h2
      exact .inr ⟨i,h,by omega,by simp;omega⟩
  · rcases nw3 with h | ⟨i,h,h2,h3⟩
    · exact .inl h
    · simp at h2
      exact .inr ⟨i,h,by omega,by simpa using h3⟩
end
end Go.Sh
namespace Go.Sh
def markV (mark:Int)(i:Nat):Int:=IntKind.wrap .u8 (IntKind.wrap .i64 (IntKind.wrap .i64 (mark+IntKind.wrap .i64 (7 * (i:Int)))+1))
def markB (mark:Int)(i:Nat):UInt8:=UInt8.ofNat (markV mark i).toNat
theorem markB_toNat (mark:Int)(i:Nat):((markB mark i).toNat:Int)=markV mark i:=by
  have h:0≤markV mark i∧markV mark i < 256:=by
    unfold markV
    generalize IntKind.wrap .i64 (IntKind.wrap .i64 (mark+IntKind.wrap .i64 (7 * (i:Int)))+1)=x
    simp only[IntKind.wrap,IntKind.bits,IntKind.signed]
    constructor
    · exact Int.emod_nonneg _ (by decide)
    · exact Int.emod_lt_of_pos _ (by decide)
  unfold markB
  rw[UInt8.toNat_ofNat']
  omega
def markL (mark:Int)(k:Nat):List UInt8:=(List.range k).map (markB mark)
theorem markL_len (mark:Int)(k:Nat):(markL mark k).length=k:=by simp[markL]
def mrowB (mark:Int)(k i:Nat):List V:=ofDs (byteCells (markL mark i))++List.replicate (k - i) (.d (.i .u8 0))
theorem mrowB_len (mark:Int){k i:Nat}(h:i≤k):(mrowB mark k i).length=k:=by
  simp[mrowB,ofDs,byteCells,markL_len]
  omega
theorem mrowB_set (mark:Int){k i:Nat}(h:i < k):lay (mrowB mark k i) i [.d (.i .u8 (markV mark i))]=mrowB mark k (i+1):=by
  have hl:(ofDs (byteCells (markL mark i))).length=i:=by simp[ofDs,byteCells,markL_len]
  unfold lay mrowB
  rw[List.take_left' hl,List.drop_append,List.drop_of_length_le (by simp;omega),hl]
  have:k - i=(k - (i+1))+1:=by omega
  rw[this,List.replicate_succ]
  have hm:markL mark (i+1)=markL mark i++ [markB mark i]:=by simp[markL,List.range_succ]
  rw[hm,← markB_toNat]
  simp[ofDs,byteCells]
theorem mrowB_zero (mark:Int)(k:Nat):ofDs (reps k [D.i .u8 0])=mrowB mark k 0:=by simp[mrowB,markL,byteCells,ofDs,reps]
theorem mrowB_all (mark:Int)(k:Nat):mrowB mark k k=ofDs (byteCells (markL mark k)):=by simp[mrowB]
section
variable {pr:Prog}(hp:Sub bookFns pr){st:St}
include hp
theorem den_marked (k:Nat)(mark:Int)(hk:k≤1099511627776):den pr 131 [.d (.i .i64 k),.d (.i .i64 mark)] st=some (bsl true (markL mark k),st):=by
  refine den_shut (hp.at 6 rfl) rfl rfl (by simp;rfl) ?_
  have hr:room 1 (.d (.i .i64 (k:Int)))=some k:=by
    simp[room]
    omega
  simp[F131,hr]
  rw[mrowB_zero mark]
  generalize hL:cden pr (.loop _ _ _) _ _=o
  obtain⟨r,rfl,hQ⟩:∃ r,o=some r∧∃ e,r=(.exit 0,e,s0 [.row (mrowB mark k k)] [] 0 0)∧e.get 5=some (.rsl 1 0 0 k k):=by
    rw[← hL]
    refine loop_n k (fun i=> [(0,.d (.i .i64 k)),(1,.d (.i .i64 mark)),(5,.rsl 1 0 0 k k),(6,.d (.i .i64 i))]) (fun i=> s0 [.row (mrowB mark k i)] [] 0 0) ?_ (by simp) rfl
    intro i hi
    rcases Nat.lt_or_ge i k with h | h
    · have h1:IntKind.wrap .i64 ((i:Int)+1)=i+1:=wrap_i64 (by omega) (by omega)
      have hia:=iaddr_row (size:=1) (sz:=1) (id:=0) (off:=0) (cap:=k) (k:= .i64) h
      simp at hia
      have hset:=mrowB_set mark h
      have hlen:=mrowB_len mark hi
      unfold markV at hset
      have hik:i+1≤k:=h
      simp[F131_b0,h,h1,hia,hlen,hset,hik]
    · have:i=k:=by omega
      simp[F131_b0,this]
  obtain⟨e,rfl,h5⟩:=hQ
  have hl:(ofDs (byteCells (markL mark k))).length=k:=by simp[ofDs,byteCells,markL_len]
  have htk:(ofDs (byteCells (markL mark k))).take k=ofDs (byteCells (markL mark k)):=List.take_of_length_le (by omega)
  simp[h5,mrowB_all,cellsAt,hl,htk,toDs_of,bsl,markL_len]
theorem den_markedR (hfl:st.floor=0)(k:Nat)(mark:Int)(hk:k≤1099511627776):den pr 133 [.d (.i .i64 k),.d (.i .i64 mark)] st=some (.rsl 1 st.heap.length 0 k k,st.push (.row (ofDs (byteCells (markL mark k))))):=by
  rw[den_fn (hp.at 7 rfl) rfl rfl,start_raw _ rfl]
  have hr:room 1 (.d (.i .i64 (k:Int)))=some k:=by
    simp[room]
    omega
  simp[F133,hr]
  rw[mrowB_zero mark]
  generalize hL:cden pr (.loop _ _ _) _ _=o
  obtain⟨r,rfl,hQ⟩:∃ r,o=some r∧∃ e,r=(.exit 0,e,st.push (.row (mrowB mark k k)))∧e.get 5=some (.rsl 1 st.heap.length 0 k k):=by
    rw[← hL]
    refine loop_n k (fun i=> [(0,.d (.i .i64 k)),(1,.d (.i .i64 mark)),(5,.rsl 1 st.heap.length 0 k k),(6,.d (.i .i64 i))]) (fun i=> st.push (.row (mrowB mark k i))) ?_ (by simp) rfl
    intro i hi
    rcases Nat.lt_or_ge i k with h | h
    · have h1:IntKind.wrap .i64 ((i:Int)+1)=i+1:=wrap_i64 (by omega) (by omega)
      have hia:=iaddr_row (size:=1) (sz:=1) (id:=st.heap.length) (off:=0) (cap:=k) (k:= .i64) h
      simp at hia
      have hset:=mrowB_set mark h
      have hlen:=mrowB_len mark hi
      unfold markV at hset
      have hik:i+1≤k:=h
      simp[F133_b0,h,h1,hia,hlen,hset,hfl,hik]
    · have:i=k:=by omega
      simp[F133_b0,this]
  obtain⟨e,rfl,h5⟩:=hQ
  simp[h5,mrowB_all]
omit hp in
theorem raw_copyBytes {nz:Bool}{L:List UInt8}(hl:L.length≤140737488355328):RawD pr F35 [bsl nz L] fun v s=> v= .own 1 L.length true (byteCells L) 0∧s.tips[0]? =some L.length:=by
  refine .of ?_
  simp[F35,fillV,reps,ofDs,appV,byteCells_len,hl]
theorem callW_copyBytes {v:V}{m:Nat}{nz:Bool}{L:List UInt8}(hc:seeA st m [v]=some [bsl nz L])(hl:L.length≤140737488355328):CallW pr 35 [v] st fun r s=> r=bsl true L∧s=st:=by
  refine .seen hc (((raw_copyBytes hl).callW (hp.at 8 rfl) rfl).mono ?_)
  rintro v s ⟨rfl,ht⟩
  have hcl:(byteCells L).length=L.length:=byteCells_len L
  have hfl:=bytes_flat L
  simp only[FreshR,FreshV,ht,hfl,hcl,true_and,Nat.mul_one]
  exact .inl ⟨rfl,rfl⟩
omit hp in
theorem Byt.see {v:V}{L:List UInt8}(h:Byt st v L)(k:Nat):∃ nz,seeA st (k+1) [v]=some [bsl nz L]:=by
  cases v with
  | d d=>
    cases d with
    | sl n nz cs=> obtain⟨rfl,rfl⟩:=h;exact⟨nz,rfl⟩
    | _=> exact h.elim
  | own sz n nz cs t=> obtain⟨rfl,rfl⟩:=h;exact⟨nz,rfl⟩
  | rsl sz id off n cap=>
    obtain⟨rfl,rfl,rfl,c,h4,h5,h6⟩:=h
    refine⟨true,seeA_one ?_⟩
    simp only[see1,seeD,h4,Nat.zero_add,Nat.mul_one,h5,if_true,List.drop_zero,h6,seeL_ofDs,Option.map_some,bsl]
  | _=> exact h.elim
end
end Go.Sh
namespace Go.Sh
theorem bytes_set (L:List UInt8)(k:Nat)(x:UInt8):ofDs (byteCells (L.set k x))=(ofDs (byteCells L)).set k (.d (.i .u8 x.toNat)):=by simp[ofDs,byteCells,List.map_set]
theorem LR.put1 {st:St}{v:V}{n:Nat}{L:List UInt8}{j:Option Nat}(h:LR st 1 v n (ofDs (byteCells L)) j){k:Nat}(hk:k < n)(x:UInt8):∃ j0 c,j=some j0∧iaddrV 1 v (.d (.i .i64 (k:Int)))=some (.ptr j0 k)∧st.row j0=some c∧k+1≤c.length∧
    LR (st.put j0 (lay c k [.d (.i .u8 x.toNat)])) 1 v n (ofDs (byteCells (L.set k x))) j∧Gr st (st.put j0 (lay c k [.d (.i .u8 x.toNat)])) (fun r=> j=some r) (fun _=> True):=by
  have hl:(ofDs (byteCells L)).length=n:=by simpa using h.1
  obtain⟨j0,h1,h2⟩:=h.iaddr (k:= .i64) hk
  obtain⟨h0,⟨rfl,_⟩ | ⟨j1,cap,tail,rfl,rfl,hc,hrow,ht⟩⟩:=h
  · cases h1
  · obtain rfl:=Option.some.inj h1
    have hlt:k < (ofDs (byteCells L)++tail).length:=by rw[List.length_append];omega
    have hlay:lay (ofDs (byteCells L)++tail) k [.d (.i .u8 x.toNat)]=ofDs (byteCells (L.set k x))++tail:=by
      rw[bytes_set,← List.set_append_left _ _ (by omega)]
      unfold lay
      rw[List.set_eq_take_append_cons_drop,if_pos hlt]
      simp
    refine⟨j1,_,rfl,by simpa using h2,hrow,by omega,?_,?_⟩
    · rw[hlay]
      refine⟨by simpa[ofDs,byteCells]using h0,.inr ⟨j1,cap,tail,rfl,rfl,hc,row_put_eq (row_lt hrow),ht⟩⟩
    · exact .put hrow (by rw[hlay];simp[ofDs,byteCells]) rfl fun _ _ _=> .inr trivial
structure W2 (st s:St)(b:Bk)(i:Nat):Prop where
  gr:Gr st s (fun r=> ∃ (t:Nat) (x:Option Nat×V×List UInt8),b.fr[t]? =some x∧x.1=some r) (fun _=> True)
  fr:∀ (t:Nat) (x:Option Nat×V×List UInt8),b.fr[t]? =some x→LR s 1 x.2.1 x.2.2.length (ofDs (byteCells (if t < i then markL (b.marks.getD t 0) x.2.2.length else x.2.2))) x.1
def mix (A L:List UInt8)(k:Nat):List UInt8:=A.take k++L.drop k
theorem mix_succ {A L:List UInt8}{k:Nat}{x:UInt8}(hl:A.length=L.length)(h:A[k]? =some x):(mix A L k).set k x=mix A L (k+1):=by
  have hk:=(List.getElem?_eq_some_iff.1 h).1
  unfold mix
  have h1:(A.take k).length=k:=by rw[List.length_take];omega
  rw[List.set_append_right _ _ (by omega),h1,Nat.sub_self,List.take_add_one,h,List.append_assoc]
  congr 1
  rw[List.drop_eq_getElem_cons (by omega)]
  rfl
section
variable {pr:Prog}(hp:Sub bookFns pr){st:St}{p:Nat}{b:Bk}
include hp
theorem loopA (h:BkI st p b){Q:Out→Prop}(hQ:∀ e s,e.get 0=some (.ptr p 0)→W2 st s b b.fr.length→Q (.exit 0,e,s)):CodeW pr (.loop [0,2] false F130_b0) [(0,.ptr p 0),(2,.d (.i .i64 0))] st Q:=by
  have hsm:=h.small.1
  have hml:b.marks.length=b.fr.length:=by simpa using h.M.1
  -- rows that stay
  have hkeep:∀ {s:St} {i:Nat},W2 st s b i→∀ a:Nat,a≤5→∀ r,b.lab p a=some r→r < st.heap.length→s.row r=st.row r:=by
    intro s i hw a ha r hr hlt
    refine hw.gr.keep r hlt ?_
    rintro⟨t,x,hx,hx1⟩
    have:b.lab p (t+6)=some r:=by simp[Bk.lab,hx,hx1]
    have:=h.sep a (t+6) r hr this
    omega
  refine loopW_j wBook (fun n e s=> ∃ i,i≤b.fr.length∧n=b.fr.length - i∧e= [(0,.ptr p 0),(2,.d (.i .i64 i))]∧W2 st s b i) ?_ (n:=b.fr.length) ⟨0,Nat.zero_le _,rfl,by simp,.refl _ _ _,fun t x hx=> by rw[if_neg (by omega)];exact h.fr x (List.mem_of_getElem? hx)⟩
  rintro n e s ⟨i,hi,rfl,rfl,hw⟩
  have hrow:s.row p=some [.d (.i .i64 b.count),.d (.i .i64 b.total),.d (.b false),b.F,b.H,b.M,b.K,b.W]:=(hkeep hw 0 (by omega) p rfl (row_lt h.row)).trans h.row
  have hF:LR s 1 b.F b.fr.length (b.fr.map fun x=> x.2.1) b.jF:=h.F.row fun r hr=> hkeep hw 1 (by omega) r hr (h.F.lt hr)
  have hM:LR s 1 b.M b.fr.length (b.marks.map fun m=> .d (.i .i64 m)) b.jM:=h.M.row fun r hr=> hkeep hw 3 (by omega) r hr (h.M.lt hr)
  have hlen:=hF.len
  rcases Nat.lt_or_ge i b.fr.length with hlt | hge
  · obtain⟨x,hx⟩:∃ x,b.fr[i]? =some x:=⟨_,List.getElem?_eq_getElem hlt⟩
    obtain⟨m,hm⟩:∃ m,b.marks[i]? =some m:=⟨_,List.getElem?_eq_getElem (by omega)⟩
    obtain⟨jF,cF,hjF,f1,f2,f3,f4⟩:=hF.get i (x:=x.2.1) (by simp[hx]) (k:= .i64)
    obtain⟨jM,cM,hjM,m1,m2,m3,m4⟩:=hM.get i (x:= .d (.i .i64 m)) (by simp[hm]) (k:= .i64)
    have hxl:=(hw.fr i x hx).len
    have hsz:=h.size x (List.mem_of_getElem? hx)
    have hmk:=fun s=> den_marked hp (st:=s) x.2.2.length m hsz
    have h1:IntKind.wrap .i64 ((i:Int)+1)=i+1:=wrap_i64 (by omega) (by omega)
    generalize hA:markL m x.2.2.length=A at *
    have hAl:A.length=x.2.2.length:=by rw[← hA,markL_len]
    have hmi:b.marks.getD i 0=m:=by simp[List.getD,hm]
    simp[F130_b0,wBook,hrow,hlen,hlt,f1,f2,f3,f4,m1,m2,m3,m4,hxl,hmk]
    have hwi:=hw.fr i x hx
    rw[if_neg (by omega)]at hwi
    have hAd:=bsl_d true A
    have hother:∀ r,x.1=some r→∀ a,a≤5→b.lab p a≠some r:=by
      intro r hr a ha e
      have:=h.sep a (i+6) r e (by simp[Bk.lab,hx,hr])
      omega
    refine loopW_j wBook (fun n e s'=> ∃ k,k≤x.2.2.length∧n=x.2.2.length - k∧e= [(0,.ptr p 0),(2,.d (.i .i64 i)),(3,bsl true A),(4,.d (.i .i64 k))]∧Gr s s' (fun r=> x.1=some r) (fun _=> True)∧LR s' 1 x.2.1 x.2.2.length (ofDs (byteCells (mix A x.2.2 k))) x.1) ?_ (n:=x.2.2.length)
      ⟨0,Nat.zero_le _,rfl,by simp,.refl _ _ _,by simpa[mix]using hwi⟩
    rintro n e s' ⟨k,hk,rfl,rfl,hg,hl⟩
    have hrow':s'.row p=some [.d (.i .i64 b.count),.d (.i .i64 b.total),.d (.b false),b.F,b.H,b.M,b.K,b.W]:=
      (hg.keep p (row_lt hrow) fun e=> hother p e 0 (by omega) rfl).trans hrow
    have hF':s'.row jF=some cF:=(hg.keep jF (row_lt f2) fun e=> hother jF e 1 (by omega) hjF).trans f2
    have hfl':s'.floor=0:=by rw[hg.floor,hw.gr.floor];exact h.fl
    rcases Nat.lt_or_ge k x.2.2.length with hkl | hkg
    · obtain⟨y,hy⟩:∃ y,A[k]? =some y:=⟨_,List.getElem?_eq_getElem (by omega)⟩
      obtain⟨j0,c,hj0,a1,a2,a3,a4,a5⟩:=hl.put1 hkl y
      rw[mix_succ hAl hy]at a4
      have hia:=hAd.iaddr (i:=(k:Int)) (k:= .i64) (by omega) (by simp;omega)
      have hld:=fun st=> hAd.load (st:=st) (i:=k) (o:=0) (n:=1) (agg:=false) (el:=byC y) (by simp[hy]) (by omega) (by omega)
      simp[byC,ofDs]at hia hld
      have hset:s'.setBlk j0 (.row (lay c k [.d (.i .u8 y.toNat)]))=some (s'.put j0 (lay c k [.d (.i .u8 y.toNat)])):=setBlk_put hfl'
      have h2:IntKind.wrap .i64 ((k:Int)+1)=k+1:=wrap_i64 (by omega) (by omega)
      have hkA:k < A.length:=by omega
      simp[F130_b1,hrow',hF',f1,f3,f4,hia,hld,a1,a2,a3,hset,h2,hkA]
      exact⟨x.2.2.length - (k+1),by omega,k+1,by omega,rfl,rfl,hg.trans a5,a4⟩
    · have hke:k=x.2.2.length:=by omega
      subst hke
      simp[F130_b1,hAl,h1]
      refine⟨b.fr.length - (i+1),by omega,i+1,by omega,rfl,rfl,hw.gr.trans (hg.mono (fun r _ hr=> ⟨i,x,hx,hr⟩) fun _ _=> trivial),?_⟩
      intro t y hy
      by_cases hti:t=i
      · subst hti
        rw[hx]at hy
        obtain rfl:=Option.some.inj hy
        rw[if_pos (by omega),hmi,hA]
        have:mix A x.2.2 x.2.2.length=A:=by
          unfold mix
          rw[List.drop_length,List.append_nil,List.take_of_length_le (by omega)]
        rw[this]at hl
        exact hl
      · have ht:=hw.fr t y hy
        have hcond:(t < i+1)=(t < i):=by apply propext;omega
        rw[show(if t < i+1 then markL (b.marks.getD t 0) y.2.2.length else y.2.2)=(if t < i then markL (b.marks.getD t 0) y.2.2.length else y.2.2) by simp only[hcond]]
        refine ht.gr hg fun r hr hxr=> ?_
        have:=h.sep (t+6) (i+6) r (by simp[Bk.lab,hy,hr]) (by simp[Bk.lab,hx,hxr])
        omega
  · have:i=b.fr.length:=by omega
    subst this
    simp[F130_b0,hrow,hlen]
    exact hQ _ _ (by simp) hw
end
end Go.Sh
namespace Go.Sh
def upd (lab:Nat→Option Nat)(a:Nat)(j:Option Nat):Nat→Option Nat:=fun c=> if c=a then j else lab c
theorem upd_eq {lab:Nat→Option Nat}{a:Nat}{j:Option Nat}:upd lab a j a=j:=by simp[upd]
theorem upd_ne {lab:Nat→Option Nat}{a c:Nat}{j:Option Nat}(h:c≠a):upd lab a j c=lab c:=by simp[upd,h]
structure Labs (s:St)(lab:Nat→Option Nat):Prop where
  lt:∀ a r,lab a=some r→r < s.heap.length
  sep:∀ a c r,lab a=some r→lab c=some r→a=c
theorem Labs.set {s s':St}{lab:Nat→Option Nat}(h:Labs s lab)(hl:s.heap.length≤s'.heap.length){a:Nat}{j:Option Nat}(hn:NewOr s s' (lab a) j):Labs s' (upd lab a j):=by
  have hlt:∀ c r,upd lab a j c=some r→r < s'.heap.length:=by
    intro c r hr
    by_cases hc:c=a
    · subst hc
      rw[upd_eq]at hr
      rcases hn with rfl | ⟨i,rfl,h1,h2⟩
      · have:=h.lt c r hr;omega
      · obtain rfl:=Option.some.inj hr;exact h2
    · rw[upd_ne hc]at hr
      have:=h.lt c r hr;omega
  refine⟨hlt,fun c d r hc hd=> ?_⟩
  have key:∀ c r,c≠a→lab c=some r→j=some r→False:=by
    intro c r hca hr hj
    rcases hn with rfl | ⟨i,rfl,h1,_⟩
    · exact hca (h.sep c a r hr hj)
    · obtain rfl:=Option.some.inj hj
      have:=h.lt c _ hr;omega
  by_cases hca:c=a <;> by_cases hda:d=a
  · rw[hca,hda]
  · subst hca
    rw[upd_eq]at hc
    rw[upd_ne hda]at hd
    exact(key d r hda hd hc).elim
  · subst hda
    rw[upd_eq]at hd
    rw[upd_ne hca]at hc
    exact(key c r hca hc hd).elim
  · rw[upd_ne hca]at hc
    rw[upd_ne hda]at hd
    exact h.sep c d r hc hd
theorem Labs.drop {s:St}{lab:Nat→Option Nat}(h:Labs s lab)(a:Nat):Labs s (upd lab a none):=by
  refine⟨fun c r hr=> ?_,fun c d r hc hd=> ?_⟩
  · by_cases hc:c=a
    · subst hc;rw[upd_eq]at hr;cases hr
    · rw[upd_ne hc]at hr;exact h.lt c r hr
  · have hca:c≠a:=by rintro rfl;rw[upd_eq]at hc;cases hc
    have hda:d≠a:=by rintro rfl;rw[upd_eq]at hd;cases hd
    rw[upd_ne hca]at hc
    rw[upd_ne hda]at hd
    exact h.sep c d r hc hd
theorem Labs.mono {s s':St}{lab:Nat→Option Nat}(h:Labs s lab)(hl:s.heap.length≤s'.heap.length):Labs s' lab:=⟨fun a r hr=> Nat.lt_of_lt_of_le (h.lt a r hr) hl,h.sep⟩
def Free (lab:Nat→Option Nat)(v:V):Prop:=∀ r,foot v=some r→∀ a,lab a≠some r
theorem Free.drop {lab:Nat→Option Nat}{v:V}(h:Free lab v)(a:Nat):Free (upd lab a none) v:=by
  intro r hr c hc
  by_cases hca:c=a
  · subst hca;rw[upd_eq]at hc;cases hc
  · rw[upd_ne hca]at hc;exact h r hr c hc
theorem Free.set {s s':St}{lab:Nat→Option Nat}{v:V}{L:List UInt8}(h:Free lab v)(hb:Byt s v L){a:Nat}{j:Option Nat}(hn:NewOr s s' (lab a) j):Free (upd lab a j) v:=by
  intro r hr c hc
  by_cases hca:c=a
  · subst hca
    rw[upd_eq]at hc
    rcases hn with rfl | ⟨i,rfl,h1,_⟩
    · exact h r hr c hc
    · obtain rfl:=Option.some.inj hc
      have:=hb.lt hr;omega
  · rw[upd_ne hca]at hc;exact h r hr c hc
theorem Byt.leng {s s':St}{v:V}{L L':List UInt8}(h:Byt s v L)(h':Byt s' v L'):L.length=L'.length:=by
  cases v with
  | d d=>
    cases d with
    | sl n nz cs=> exact h.1.symm.trans h'.1
    | _=> exact h.elim
  | own sz n nz cs t=> exact h.1.symm.trans h'.1
  | rsl sz id off n cap=> exact h.2.2.1.symm.trans h'.2.2.1
  | _=> exact h.elim
structure BI (s:St)(p:Nat)(c t F H M K W G:V)(lab:Nat→Option Nat)(kv wv gv:List V):Prop where
  fl:s.floor=0
  row:s.row p=some [c,t,.d (.b false),F,H,M,K,W]
  p0:lab 0=some p
  K:LR s 1 K kv.length kv (lab 4)
  W:LR s 1 W kv.length wv (lab 5)
  G:LR s 1 G gv.length gv (lab 2)
  gb:∀ g∈gv,(g.ok1=true∧g.cs= [g])∧∃ L,Byt s g L∧L.length≤2199023255552
  kw:∀ (i:Nat) k w,kv[i]? =some k→wv[i]? =some w→∃ L,Byt s k L∧Byt s w L
  labs:Labs s lab
  free:∀ v,v∈kv∨v∈wv∨v∈gv→Free lab v
section
variable {s s':St}{p:Nat}{c t F H M K W G:V}{lab:Nat→Option Nat}{kv wv gv:List V}{A:Nat→Prop}{P:V→Prop}
theorem BI.wlen (h:BI s p c t F H M K W G lab kv wv gv):wv.length=kv.length:=by simpa using h.W.1
theorem BI.kbyt (h:BI s p c t F H M K W G lab kv wv gv){k:V}(hk:k∈kv):∃ L,Byt s k L:=by
  obtain⟨i,hi⟩:=List.mem_iff_getElem?.1 hk
  have hlt:=(List.getElem?_eq_some_iff.1 hi).1
  obtain⟨w,hw⟩:∃ w,wv[i]? =some w:=⟨_,List.getElem?_eq_getElem (by have:=h.wlen;omega)⟩
  obtain⟨L,h1,_⟩:=h.kw i k w hi hw
  exact⟨L,h1⟩
theorem BI.wbyt (h:BI s p c t F H M K W G lab kv wv gv){w:V}(hw:w∈wv):∃ L,Byt s w L:=by
  obtain⟨i,hi⟩:=List.mem_iff_getElem?.1 hw
  have hlt:=(List.getElem?_eq_some_iff.1 hi).1
  obtain⟨k,hk⟩:∃ k,kv[i]? =some k:=⟨_,List.getElem?_eq_getElem (by have:=h.wlen;omega)⟩
  obtain⟨L,_,h1⟩:=h.kw i k w hk hi
  exact⟨L,h1⟩
theorem BI.gr (h:BI s p c t F H M K W G lab kv wv gv)(g:Gr s s' A P)(hA:∀ r,r < s.heap.length→A r→∃ a,a≠0∧a≠2∧a≠4∧a≠5∧lab a=some r):BI s' p c t F H M K W G lab kv wv gv:=by
  have hl:∀ a,a=0∨a=2∨a=4∨a=5→∀ r,lab a=some r→¬ A r:=by
    intro a ha r hr hAr
    obtain⟨d,d0,d2,d4,d5,hd⟩:=hA r (h.labs.lt a r hr) hAr
    have:=h.labs.sep a d r hr hd
    omega
  have hf:∀ v,v∈kv∨v∈wv∨v∈gv→∀ L,Byt s v L→Byt s' v L:=by
    intro v hv L hb
    refine hb.gr g fun r hr hAr=> ?_
    obtain⟨d,_,_,_,_,hd⟩:=hA r (hb.lt hr) hAr
    exact h.free v hv r hr d hd
  refine⟨g.floor.trans h.fl,(g.keep p (row_lt h.row) (hl 0 (.inl rfl) p h.p0)).trans h.row,h.p0,h.K.gr g (hl 4 (by omega)),h.W.gr g (hl 5 (by omega)),h.G.gr g (hl 2 (by omega)),fun g' hg=> ⟨(h.gb g' hg).1,?_⟩,?_,h.labs.mono g.len,h.free⟩
  · obtain⟨L,hb,hl⟩:=(h.gb g' hg).2
    exact⟨L,hf g' (.inr (.inr hg)) L hb,hl⟩
  · intro i k w hk hw
    obtain⟨L,h1,h2⟩:=h.kw i k w hk hw
    exact⟨L,hf k (.inl (List.mem_of_getElem? hk)) L h1,hf w (.inr (.inl (List.mem_of_getElem? hw))) L h2⟩
theorem BI.drop (h:BI s p c t F H M K W G lab kv wv gv){a:Nat}(h0:a≠0)(h2:a≠2)(h4:a≠4)(h5:a≠5):BI s p c t F H M K W G (upd lab a none) kv wv gv:=
  ⟨h.fl,h.row,by rw[upd_ne (Ne.symm h0)];exact h.p0,by rw[upd_ne (Ne.symm h4)];exact h.K,by rw[upd_ne (Ne.symm h5)];exact h.W,by rw[upd_ne (Ne.symm h2)];exact h.G,h.gb,h.kw,h.labs.drop a,fun v hv=> (h.free v hv).drop a⟩
theorem foot_one {v:V}{L:List UInt8}(h:Byt s v L):v.ok1=true∧v.cs= [v]:=by
  cases v with
  | d d=> exact⟨rfl,rfl⟩
  | own sz n nz cs t=> exact⟨rfl,rfl⟩
  | rsl sz id off n cap=> exact⟨rfl,rfl⟩
  | _=> exact h.elim
variable {pr:Prog}(hp:Sub bookFns pr)
include hp
theorem BI.keep (h:BI s p c t F H M K W G lab kv wv gv){k w:V}{L:List UInt8}(hk:Byt s k L)(hw:Byt s w L)(fk:Free lab k)(fw:Free lab w)(hn:kv.length≤1000000000){Q:V→St→Prop}
    (hQ:∀ s' K' W' j4 j5,BI s' p c t F H M K' W' G (upd (upd lab 4 j4) 5 j5) (kv++ [k]) (wv++ [w]) gv→Gr s s' (fun r=> lab 0=some r∨lab 4=some r∨lab 5=some r) (fun _=> True)→NewOr s s' (lab 4) j4→NewOr s s' (lab 5) j5→Q (.tup []) s'):CallW pr 132 [.ptr p 0,k,w] s Q:=by
  have hne:∀ a d,a≠d→∀ r,lab a=some r→lab d≠some r:=fun a d had r ha hd=> had (h.labs.sep a d r ha hd)
  refine callW_keep hp h.fl h.row h.K h.W (fun e=> hne 4 0 (by omega) p e h.p0) (fun e=> hne 5 0 (by omega) p e h.p0) (hne 4 5 (by omega)) hn (foot_one hk) (foot_one hw) ?_
  intro s1 K' W' j4 j5 hrow hK hW g n4 n5 h45
  have hA:∀ r,(r=p∨lab 4=some r∨lab 5=some r)→lab 0=some r∨lab 4=some r∨lab 5=some r:=fun r hr=> hr.imp (fun e=> by rw[e];exact h.p0) id
  have hbyt:∀ {v:V} {L:List UInt8},Byt s v L→Free lab v→Byt s1 v L:=by
    intro v L hb hf
    refine hb.gr g fun r hr hAr=> ?_
    rcases hA r hAr with h1 | h1 | h1
    · exact hf r hr 0 h1
    · exact hf r hr 4 h1
    · exact hf r hr 5 h1
  have hl1:Labs s1 (upd (upd lab 4 j4) 5 j5):=by
    have h1:=h.labs.set g.len n4
    refine⟨fun a r hr=> ?_,fun a d r ha hd=> ?_⟩
    · by_cases ha:a=5
      · subst ha;rw[upd_eq]at hr;exact hW.lt hr
      · rw[upd_ne ha]at hr;exact h1.lt a r hr
    · have key:∀ e q,e≠5→upd lab 4 j4 e=some q→j5≠some q:=by
        intro e q he hq hj
        by_cases he4:e=4
        · subst he4;rw[upd_eq]at hq;exact h45 q hq hj
        · rw[upd_ne he4]at hq
          rcases n5 with h5 | ⟨i,h5,h2,_⟩
          · rw[h5]at hj
            exact he (h.labs.sep e 5 q hq hj)
          · rw[h5]at hj
            obtain rfl:=Option.some.inj hj
            have:=h.labs.lt e _ hq;omega
      by_cases ha5:a=5 <;> by_cases hd5:d=5
      · rw[ha5,hd5]
      · subst ha5;rw[upd_eq]at ha;rw[upd_ne hd5]at hd
        exact absurd ha (key d r hd5 hd)
      · subst hd5;rw[upd_eq]at hd;rw[upd_ne ha5]at ha
        exact absurd hd (key a r ha5 ha)
      · rw[upd_ne ha5]at ha;rw[upd_ne hd5]at hd
        exact h1.sep a d r ha hd
  have hfree:∀ v,(∃ L,Byt s v L)→Free lab v→Free (upd (upd lab 4 j4) 5 j5) v:=by
    rintro v ⟨L,hb⟩ hf r hr a ha
    by_cases ha5:a=5
    · subst ha5;rw[upd_eq]at ha
      rcases n5 with rfl | ⟨i,rfl,h2,_⟩
      · exact hf r hr 5 ha
      · obtain rfl:=Option.some.inj ha
        have:=hb.lt hr;omega
    · rw[upd_ne ha5]at ha
      by_cases ha4:a=4
      · subst ha4;rw[upd_eq]at ha
        rcases n4 with rfl | ⟨i,rfl,h2,_⟩
        · exact hf r hr 4 ha
        · obtain rfl:=Option.some.inj ha
          have:=hb.lt hr;omega
      · rw[upd_ne ha4]at ha;exact hf r hr a ha
  refine hQ s1 K' W' j4 j5 ⟨g.floor.trans h.fl,hrow,?_,?_,?_,?_,?_,?_,hl1,?_⟩ (g.mono (fun r _=> hA r) fun _ _=> trivial) n4 n5
  · rw[upd_ne (by omega),upd_ne (by omega)];exact h.p0
  · rw[upd_ne (by omega),upd_eq,List.length_append];exact hK
  · rw[upd_eq,List.length_append];exact hW
  · rw[upd_ne (by omega),upd_ne (by omega)]
    refine h.G.gr g fun r hr hAr=> ?_
    rcases hA r hAr with h1 | h1 | h1
    · exact hne 2 0 (by omega) r hr h1
    · exact hne 2 4 (by omega) r hr h1
    · exact hne 2 5 (by omega) r hr h1
  · intro g' hg
    obtain⟨h1,L',h2,h3⟩:=h.gb g' hg
    exact⟨h1,L',hbyt h2 (h.free g' (.inr (.inr hg))),h3⟩
  · intro i k' w' hk' hw'
    rcases Nat.lt_or_ge i kv.length with hi | hi
    · rw[List.getElem?_append_left hi]at hk'
      rw[List.getElem?_append_left (by have:=h.wlen;omega)]at hw'
      obtain⟨L',h1,h2⟩:=h.kw i k' w' hk' hw'
      exact⟨L',hbyt h1 (h.free k' (.inl (List.mem_of_getElem? hk'))),hbyt h2 (h.free w' (.inr (.inl (List.mem_of_getElem? hw'))))⟩
    · have hil:=(List.getElem?_eq_some_iff.1 hk').1
      rw[List.length_append,List.length_singleton]at hil
      have hie:i=kv.length:=by omega
      subst hie
      have hwl:=h.wlen
      rw[List.getElem?_append_right (by omega),Nat.sub_self]at hk'
      rw[← hwl,List.getElem?_append_right (by omega),Nat.sub_self]at hw'
      simp only[List.getElem?_cons_zero,Option.some.injEq]at hk' hw'
      subst hk'
      subst hw'
      exact⟨L,hbyt hk fk,hbyt hw fw⟩
  · intro v hv
    simp only[List.mem_append,List.mem_singleton]at hv
    rcases hv with(hv | rfl) | (hv | rfl) | hv
    · exact hfree v (h.kbyt hv) (h.free v (.inl hv))
    · exact hfree _ ⟨L,hk⟩ fk
    · exact hfree v (h.wbyt hv) (h.free v (.inr (.inl hv)))
    · exact hfree _ ⟨L,hw⟩ fw
    · exact hfree v (((h.gb v hv).2).imp fun _ h=> h.1) (h.free v (.inr (.inr hv)))
omit hp in
theorem BI.grow (h:BI s p c t F H M K W G lab kv wv gv){gs:List V}(hg:∀ g∈gs,(∃ L,Byt s g L∧L.length≤2199023255552)∧Free lab g)(hn:gv.length+gs.length≤1000000000){x:V}(hx:vwV 1 s x=some (gs.length,gs)){Q:V→St→Prop}
    (hQ:∀ s' G' j2,BI s' p c t F H M K W G' (upd lab 2 j2) kv wv (gv++gs)→Gr s s' (fun r=> lab 2=some r) (fun _=> True)→NewOr s s' (lab 2) j2→Q G' s'):appW 1 24 [.sl 0 false []] s G x Q:=by
  have hne:∀ a d,a≠d→∀ r,lab a=some r→lab d≠some r:=fun a d had r ha hd=> had (h.labs.sep a d r ha hd)
  refine appW_LR h.fl h.G hx (by simp) rfl (by omega) (by omega) ?_
  intro s1 G' j2 hG g n2
  have hbyt:∀ {v:V} {L:List UInt8},Byt s v L→Free lab v→Byt s1 v L:=fun hb hf=> hb.gr g fun r hr hAr=> hf r hr 2 hAr
  refine hQ s1 G' j2 ⟨g.floor.trans h.fl,?_,?_,?_,?_,?_,?_,?_,h.labs.set g.len n2,?_⟩ (g.mono (fun _ _ h=> h) fun _ _=> trivial) n2
  · exact(g.keep p (row_lt h.row) fun e=> hne 2 0 (by omega) p e h.p0).trans h.row
  · rw[upd_ne (by omega)];exact h.p0
  · rw[upd_ne (by omega)];exact h.K.gr g fun r hr e=> hne 4 2 (by omega) r hr e
  · rw[upd_ne (by omega)];exact h.W.gr g fun r hr e=> hne 5 2 (by omega) r hr e
  · rw[upd_eq,List.length_append];exact hG
  · intro g' hg'
    rcases List.mem_append.1 hg' with hg' | hg'
    · obtain⟨h1,L,h2,h3⟩:=h.gb g' hg'
      exact⟨h1,L,hbyt h2 (h.free g' (.inr (.inr hg'))),h3⟩
    · obtain⟨⟨L,h1,h3⟩,h2⟩:=hg g' hg'
      exact⟨foot_one h1,L,hbyt h1 h2,h3⟩
  · intro i k w hk hw
    obtain⟨L,h1,h2⟩:=h.kw i k w hk hw
    exact⟨L,hbyt h1 (h.free k (.inl (List.mem_of_getElem? hk))),hbyt h2 (h.free w (.inr (.inl (List.mem_of_getElem? hw))))⟩
  · intro v hv
    rcases hv with hv | hv | hv
    · obtain⟨L,hb⟩:=h.kbyt hv
      exact(h.free v (.inl hv)).set hb n2
    · obtain⟨L,hb⟩:=h.wbyt hv
      exact(h.free v (.inr (.inl hv))).set hb n2
    · rcases List.mem_append.1 hv with hv | hv
      · obtain⟨_,L,hb,_⟩:=h.gb v hv
        exact(h.free v (.inr (.inr hv))).set hb n2
      · obtain⟨⟨L,hb,_⟩,hf⟩:=hg v hv
        exact hf.set hb n2
end
end Go.Sh
