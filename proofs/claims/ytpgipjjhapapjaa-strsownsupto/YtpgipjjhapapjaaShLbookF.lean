/- Part of the proof. -/
import Derived.Test.YtpgipjjhapapjaaShLbookE
set_option linter.unusedVariables false
set_option linter.unusedSimpArgs false
namespace Go.Sh
structure WC (st s:St)(p:Nat)(b:Bk)(i:Nat)(K W G:V)(lab:Nat→Option Nat)(kv wv gv:List V):Prop where
  bi:BI s p (.d (.i .i64 b.count)) (.d (.i .i64 b.total)) b.F b.H b.M K W G lab kv wv gv
  gr:Gr st s (fun r=> (∃ a,b.lab p a=some r)∨st.heap.length≤r) (fun _=> True)
  lo:∀ a r,lab a=some r→(∃ c,b.lab p c=some r)∨st.heap.length≤r
  kl:kv.length≤b.kv.length+6+i
  vo:∀ v,v∈kv∨v∈wv∨v∈gv→∀ r,foot v=some r→OldR st p b r
section
variable {pr:Prog}(hp:Sub bookFns pr){st:St}{p:Nat}{b:Bk}
include hp
theorem loopC (h:BkI st p b){s2:St}{K W G:V}{lab:Nat→Option Nat}{kv wv gv:List V}(h2:WC st s2 p b 0 K W G lab kv wv gv)(hgl:gv.length≤12){Q:Out→Prop}(hQ:∀ e s K W lab kv wv,e.get 0=some (.ptr p 0)→WC st s p b gv.length K W G lab kv wv gv→Q (.exit 8,e,s)):
    CodeW pr (.loop [0,5,16] false F130_b4) [(0,.ptr p 0),(5,G),(16,.d (.i .i64 0))] s2 Q:=by
  refine loopW_j wBook (fun n e s=> ∃ i K W lab kv wv,i≤gv.length∧n=gv.length - i∧e= [(0,.ptr p 0),(5,G),(16,.d (.i .i64 i))]∧WC st s p b i K W G lab kv wv gv) ?_ (n:=gv.length) ⟨0,K,W,lab,kv,wv,Nat.zero_le _,rfl,by simp,h2⟩
  rintro n e s ⟨i,K,W,lab,kv,wv,hi,rfl,rfl,hw⟩
  have hlen:=hw.bi.G.len
  rcases Nat.lt_or_ge i gv.length with hlt | hge
  rotate_left
  · have:i=gv.length:=by omega
    subst this
    simp[F130_b4,hlen]
    exact hQ _ _ K W lab kv wv (by simp) hw
  obtain⟨g,hg⟩:∃ g,gv[i]? =some g:=⟨_,List.getElem?_eq_getElem hlt⟩
  have hgm:=List.mem_of_getElem? hg
  obtain⟨jG,cG,hjG,f1,f2,f3,f4⟩:=hw.bi.G.get i hg (k:= .i64)
  obtain⟨hg1,L,hb,hL⟩:=hw.bi.gb g hgm
  have h1:IntKind.wrap .i64 ((i:Int)+1)=i+1:=wrap_i64 (by omega) (by omega)
  simp[F130_b4,wBook,hlen,hlt]
  refine drawn2 10 [] (by decide) (by decide) ?_
  simp[f1,f2,f3,f4]
  obtain⟨nz,hs⟩:=hb.see 0
  refine⟨_,callW_copyBytes hp hs (by omega),?_⟩
  simp[wBook]
  have hkl:=hw.kl
  have hks:=h.small.2
  refine hw.bi.keep hp hb (w:=bsl true L) ⟨rfl,rfl⟩ (hw.bi.free g (.inr (.inr hgm))) (fun r hr=> by cases hr) (by omega) ?_
  intro s' K' W' j4 j5 bi' gr' n4 n5
  simp[h1]
  have hsl:=hw.gr.len
  refine⟨gv.length - (i+1),by omega,i+1,by omega,rfl,rfl,K',W',_,_,_,bi',?_,?_,?_,?_⟩
  · refine hw.gr.trans (gr'.mono (fun r _ e=> ?_) fun _ _=> trivial)
    rcases e with e | e | e <;> exact hw.lo _ r e
  · have l1:=lo_upd hw.lo (a:=4) (j:=j4) (n4.lo hw.lo hsl)
    exact lo_upd l1 (a:=5) (j:=j5) (n5.lo hw.lo hsl)
  · simp only[List.length_append,List.length_singleton]
    omega
  · intro v hv r hr
    simp only[List.mem_append,List.mem_singleton]at hv
    rcases hv with(hv | rfl) | (hv | rfl) | hv
    · exact hw.vo v (.inl hv) r hr
    · exact hw.vo v (.inr (.inr hgm)) r hr
    · exact hw.vo v (.inr (.inl hv)) r hr
    · cases hr
    · exact hw.vo v (.inr (.inr hv)) r hr
structure WE (st s:St)(p:Nat)(b b':Bk):Prop where
  bk:BkI s p b'
  count:b'.count=b.count
  total:b'.total=b.total
  fr:b'.fr= []
  gr:Gr st s (fun r=> (∃ a,b.lab p a=some r)∨st.heap.length≤r) (fun _=> True)
  lo:∀ a r,b'.lab p a=some r→(∃ c,b.lab p c=some r)∨st.heap.length≤r
  kl:b'.kv.length≤b.kv.length+18
  vo:∀ v,v∈b'.kv∨v∈b'.wv→∀ r,foot v=some r→OldR st p b r
theorem callW_write (h:BkI st p b)(hkl:b.kv.length≤899999000){Q:V→St→Prop}(hQ:∀ s b',WE st s p b b'→Q (.tup []) s):CallW pr 130 [.ptr p 0] st Q:=by
  refine .run wBook (hp.at 4 rfl) rfl ?_
  rw[start_raw _ rfl]
  refine codeC_of ?_
  have hun:=den_untouched hp h
  simp[F130,wBook,hun]
  refine loopA hp h ?_
  intro e1 s1 he1 h2
  simp[he1]
  refine loopB hp h h2 ?_
  intro e2 s2 K W G lab kv wv gv he2 he3 hw
  simp[he2,he3]
  refine loopC hp h (K:=K) (W:=W) (lab:=lab) (kv:=kv) (wv:=wv) (gv:=gv) ⟨hw.bi,hw.gr,hw.lo,by have:=hw.kl;have:=h.small.1;omega,hw.vo⟩ (by have:=hw.gl;have:=h.small.1;omega) ?_
  intro e3 s3 K3 W3 lab3 kv3 wv3 he4 hc
  have hrow:=hc.bi.row
  have hpl:=row_lt hrow
  have hset:∀ cs,s3.setBlk p (.row cs)=some (s3.put p cs):=fun cs=> setBlk_put hc.bi.fl
  have hset2:∀ cs ds,(s3.put p cs).setBlk p (.row ds)=some (s3.put p ds):=fun cs ds=> by rw[setBlk_put (by rw[put_floor];exact hc.bi.fl),put_put]
  have hrow2:∀ cs,(s3.put p cs).row p=some cs:=fun cs=> row_put_eq hpl
  have hgl:gv.length≤12:=by have:=hw.gl;have:=h.small.1;omega
  have hne:∀ a,a≠0→∀ r,lab3 a=some r→r≠p:=fun a ha r hr e=> ha (hc.bi.labs.sep a 0 r hr (e ▸ hc.bi.p0))
  have hbyt:∀ {v:V} {L:List UInt8} {cs:List V},v∈kv3∨v∈wv3→Byt s3 v L→Byt (s3.put p cs) v L:=fun hv hb=> hb.row fun j hj=> row_put_ne fun e=> hc.bi.free _ (hv.imp id .inl) j hj 0 (e ▸ hc.bi.p0)
  obtain⟨b',hb'⟩:∃ b':Bk,b'=⟨b.count,b.total,.d (.sl 0 false []),.d (.sl 0 false []),.d (.sl 0 false []),K3,W3,none,none,none,lab3 4,lab3 5,[],[],kv3,wv3⟩:=⟨_,rfl⟩
  have hlab:∀ a r,b'.lab p a=some r→lab3 a=some r:=by
    subst hb'
    intro a r hr
    match a,hr with
    | 0,hr=> obtain rfl:=Option.some.inj hr;exact hc.bi.p0
    | 1,hr=> cases hr
    | 2,hr=> cases hr
    | 3,hr=> cases hr
    | 4,hr=> exact hr
    | 5,hr=> exact hr
    | a+6,hr=> simp[Bk.lab]at hr
  have bk:BkI (s3.put p [.d (.i .i64 b.count),.d (.i .i64 b.total),.d (.b false),.d (.sl 0 false []),.d (.sl 0 false []),.d (.sl 0 false []),K3,W3]) p b':=by
    have hkl3:=hc.kl
    subst hb'
    refine⟨hc.bi.fl,row_put_eq hpl,.nil _ _,.nil _ _,.nil _ _,hc.bi.K.row fun r hr=> row_put_ne (hne 4 (by omega) r hr),hc.bi.W.row fun r hr=> row_put_ne (hne 5 (by omega) r hr),fun x hx=> (List.not_mem_nil hx).elim,?_,fun a c i ha hc'=> hc.bi.labs.sep a c i (hlab a i ha) (hlab c i hc'),fun v hv j hj a ha=> hc.bi.free v (hv.imp id .inl) j hj a (hlab a j ha),⟨by simp,by simp;omega⟩,fun x hx=> (List.not_mem_nil hx).elim,h.total⟩
    intro i k w hk hw'
    obtain⟨L,h1,h2⟩:=hc.bi.kw i k w hk hw'
    exact⟨L,hbyt (.inl (List.mem_of_getElem? hk)) h1,hbyt (.inr (List.mem_of_getElem? hw')) h2⟩
  have hsame:=den_same hp bk
  simp[he4,hrow,hset,hset2,hrow2,lay,hsame,FinW]
  refine hQ _ b' ⟨bk,by rw[hb'],by rw[hb'],by rw[hb'],hc.gr.trans (.put hrow rfl (.inl ⟨0,rfl⟩) fun _ _ _=> .inr trivial),fun a r hr=> hc.lo a r (hlab a r hr),?_,by rw[hb'];exact fun v hv=> hc.vo v (hv.imp id .inl)⟩
  have:=hc.kl
  rw[hb']
  show kv3.length≤_
  omega
end
end Go.Sh
