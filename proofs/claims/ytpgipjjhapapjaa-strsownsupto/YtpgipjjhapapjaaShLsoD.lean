/- Part of the proof. -/
import Derived.Test.YtpgipjjhapapjaaShLsoC
set_option linter.unusedVariables false
set_option linter.unusedSimpArgs false
set_option linter.unusedSectionVars false
namespace Go.Sh
def Pend (i:Nat)(fs:Fs)(pv:List (Nat×V×List D))(x:V)(L:List Nm):Prop:=
  (1,x,flD sC L)∈pv∨∃ t m w C k,t < i∧fs (t+6)=some (1,m,w,ofDs (flD sC C))∧Sub' 1 x k w m∧C.take k=L
theorem Pend.mono {i i':Nat}{fs fs':Fs}{pv pv':List (Nat×V×List D)}{x:V}{L:List Nm}(h:Pend i fs pv x L)(hi:i≤i')(hf:∀ t,t < i→fs' (t+6)=fs (t+6))(hs:∀ y∈pv,y∈pv'):Pend i' fs' pv' x L:=by
  rcases h with h | ⟨t,m,w,C,k,h1,h2,h3⟩
  · exact .inl (hs _ h)
  · exact .inr ⟨t,m,w,C,k,by omega,(hf t h1).trans h2,h3⟩
theorem flD_set (M:List Nm)(k:Nat)(s:Nm)(hk:k < M.length):lay (ofDs (flD sC M)) (k * 1) (ofDs (sC s))=ofDs (flD sC (M.set k s)):=by
  rw[flD_s,flD_s,Nat.mul_one]
  unfold lay
  simp only[ofDs,sC,List.map_cons,List.map_nil,List.length_singleton]
  rw[List.map_map,List.map_map,← List.map_take,← List.map_drop]
  have:M.set k s=M.take k++s::M.drop (k+1):=List.set_eq_take_append_cons_drop .. |>.trans (by rw[if_pos hk])
  rw[this]
  simp
structure W8 (st0:St)(lab0:Nat→Option Nat)(pv0:List (Nat×V×List D))(s:St)(p:Nat)(b:S8b)(i g n:Nat)(K N:V)(kv wv:List V)(lab:Nat→Option Nat)(fs:Fs)(pv:List (Nat×V×List D))(al:List (Nat×List V)):Prop where
  hp:Hq s p [.d (.i .i64 b.cnt),.d (.i .i64 b.tot),.d (.b false),b.F,b.W,K,N] lab fs pv al
  f1:fs 1=some (1,b.fr.length,b.F,b.fr.map (·.1))
  f4:fs 4=some (1,n,K,kv)
  f5:fs 5=some (1,n,N,wv)
  kw:∀ (idx:Nat) k w,kv[idx]? =some k→wv[idx]? =some w→∃ L,Pend i fs pv k L∧w=cpS L∧L.length≤1099511627776
  fr:∀ (t:Nat) x,b.fr[t]? =some x→∃ M m w C,fs (t+6)=some (1,m,w,ofDs (flD sC C))∧M.length=x.2.length∧Sub' 1 x.1 M.length w m∧C.take M.length=M∧(g≤t→w=x.1∧m=M.length∧C=M)
  sm:∀ (t:Nat) x,b.fr[t]? =some x→x.2.length≤4294967296
  none:∀ a,b.fr.length+6≤a→a≠51→lab a=none∧fs a=none
  fr8:Fr8 st0 s lab0 lab pv0 pv
  nle:n≤900001000∧b.fr.length≤3
theorem W8.klen {st0:St}{lab0:Nat→Option Nat}{pv0:List (Nat×V×List D)}{s:St}{p:Nat}{b:S8b}{i g n:Nat}{K N:V}{kv wv:List V}{lab:Nat→Option Nat}{fs:Fs}{pv:List (Nat×V×List D)}{al:List (Nat×List V)}(h:W8 st0 lab0 pv0 s p b i g n K N kv wv lab fs pv al):kv.length=n∧wv.length=n:=
  ⟨by simpa using(h.hp.lr _ _ h.f4).1,by simpa using(h.hp.lr _ _ h.f5).1⟩
section
variable {pr:Prog}(hp:Sub so8Fns pr){st0:St}{lab0:Nat→Option Nat}{pv0:List (Nat×V×List D)}{s:St}{p:Nat}{b:S8b}{i n:Nat}{K N:V}{kv wv:List V}{lab:Nat→Option Nat}{fs:Fs}{pv:List (Nat×V×List D)}{al:List (Nat×List V)}
include hp
theorem loopSo1 (h:W8 st0 lab0 pv0 s p b i 0 n K N kv wv lab fs pv al){x:V×List Nm}(hx:b.fr[i]? =some x){Q:Out→Prop}
    (hQ:∀ e s fs',fs' 51=fs 51→e.get 0=some (.ptr p 0)→e.get 2=some (.d (.i .i64 (i:Nat)))→W8 st0 lab0 pv0 s p b i 0 n K N kv wv lab fs' pv al→Q (.exit 2,e,s)):
    CodeW pr (.loop [0,2,3] false F395_b1) [(0,.ptr p 0),(2,.d (.i .i64 (i:Nat))),(3,.d (.i .i64 0))] s Q:=by
  have hi3:=h.nle.2
  have hil:=(List.getElem?_eq_some_iff.1 hx).1
  have hsm:=h.sm i x hx
  obtain⟨J,hJ⟩:∃ J:Nat→Env→St→Prop,∀ n' e s,J n' e s↔∃ k fs',k≤x.2.length∧n'=x.2.length - k∧e= [(0,.ptr p 0),(2,.d (.i .i64 (i:Nat))),(3,.d (.i .i64 (k:Nat)))]∧fs' 51=fs 51∧W8 st0 lab0 pv0 s p b i 0 n K N kv wv lab fs' pv al:=⟨_,fun _ _ _=> Iff.rfl⟩
  refine loopW_j wSo J ?_ (n:=x.2.length) ((hJ _ _ _).2 ⟨0,fs,Nat.zero_le _,rfl,by simp,rfl,h⟩)
  intro n' e s hj
  obtain⟨k,fs,hk,rfl,rfl,h51,hs⟩:=(hJ _ _ _).1 hj
  have hrow:=hs.hp.row
  obtain⟨jF,cF,hjF,a1,a2,a3,a4⟩:=hs.hp.get hs.f1 i (x:=x.1) (by simp[hx]) (k:= .i64)
  obtain⟨M,m,w,C,hfi,hMl,_,_,hM⟩:=hs.fr i x hx
  obtain⟨rfl,rfl,rfl⟩:=hM (Nat.zero_le _)
  have hlx:=hs.hp.len hfi
  rw[hMl]at hlx
  rcases Nat.lt_or_ge k x.2.length with hlt | hge
  · have w1:IntKind.wrap .i64 ((k:Int)+1)=k+1:=wrap_i64 (by omega) (by omega)
    obtain⟨X,hX⟩:∃ X:Int,X=IntKind.wrap .i64 (IntKind.wrap .i64 (IntKind.wrap .i64 (977 * b.cnt)+IntKind.wrap .i64 (31 * (i:Int)))+(k:Int)):=⟨_,rfl⟩
    obtain⟨sm,hsm'⟩:=den_mine hp X
    obtain⟨j0,c',hj0,e2,e3,e4,e5,h2,g2⟩:=hs.hp.write (a:=i+6) (by omega) hfi (k:=k) (by omega) (ys:=ofDs (sC sm)) rfl
    rw[flD_set _ _ _ (by omega)]at h2
    have hset:∀ cs,s.setBlk j0 (.row cs)=some (s.put j0 cs):=fun cs=> setBlk_put hs.hp.fl
    obtain⟨s2,hs2⟩:∃ s2,s2=s.put j0 (lay c' (k * 1) (ofDs (sC sm))):=⟨_,rfl⟩
    rw[← hs2]at h2 g2
    simp[ofDs,sC]at hs2
    simp at e2 e4
    simp[F395_b1,wSo,hrow,a1,a2,a3,a4,hlx,hlt,← hX,hsm',e2,e3,e4,hset,← hs2]
    rw[w1]
    refine⟨x.2.length - (k+1),by omega,(hJ _ _ _).2 ⟨k+1,updF fs (i+6) (some (1,C.length,x.1,ofDs (flD sC (C.set k sm)))),hlt,rfl,by simp,by rw[updF_ne (by omega)];exact h51,?_⟩⟩
    exact {
      hp:=h2
      f1:=by rw[updF_ne (by omega)];exact hs.f1
      f4:=by rw[updF_ne (by omega)];exact hs.f4
      f5:=by rw[updF_ne (by omega)];exact hs.f5
      kw:=fun idx q w hq hw=> by
       obtain⟨L,h1,h2,h3⟩:=hs.kw idx q w hq hw
       exact⟨L,h1.mono (Nat.le_refl _) (fun t ht=> updF_ne (by omega)) (fun _ h=> h),h2,h3⟩
      fr:=fun t y hy=> by
       by_cases ht:t=i
       · subst ht
         rw[hx]at hy
         obtain rfl:=Option.some.inj hy
         have hl:(C.set k sm).length=C.length:=by simp
         refine⟨C.set k sm,C.length,x.1,C.set k sm,updF_eq,hl.trans hMl,?_,List.take_of_length_le (Nat.le_refl _),fun _=> ⟨rfl,hl.symm,rfl⟩⟩
         rw[hl]
         assumption
       · rw[updF_ne (by omega)];exact hs.fr t y hy
      sm:=hs.sm
      none:=fun a ha h51=> by rw[updF_ne (by omega)];exact hs.none a ha h51
      fr8:=hs.fr8.trans (.at (g2.mono (fun r _ e=> ⟨i+6,e⟩) fun _ h=> h))
      nle:=hs.nle}
  · have:k=x.2.length:=by omega
    subst this
    simp[F395_b1,wSo,hrow,a1,a2,a3,a4,hlx]
    exact hQ _ _ fs h51 (by simp) (by simp) hs
end
end Go.Sh
