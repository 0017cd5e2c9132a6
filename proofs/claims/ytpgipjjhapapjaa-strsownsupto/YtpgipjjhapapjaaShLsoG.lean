/- Part of the proof. -/
import Derived.Test.YtpgipjjhapapjaaShLsoF
set_option linter.unusedVariables false
set_option linter.unusedSimpArgs false
set_option linter.unusedSectionVars false
namespace Go.Sh
section
variable {st0:St}{lab0:Nat→Option Nat}{pv0:List (Nat×V×List D)}{s s':St}{p:Nat}{b:S8b}{i g g' n:Nat}{K N:V}{kv wv:List V}{lab:Nat→Option Nat}{fs:Fs}{pv:List (Nat×V×List D)}{al al':List (Nat×List V)}
theorem W8.weak (h:W8 st0 lab0 pv0 s p b i g n K N kv wv lab fs pv al)(hg:g≤g'):W8 st0 lab0 pv0 s p b i g' n K N kv wv lab fs pv al:=
  {h with
   fr:=fun t x hx=> by
    obtain⟨M,m,w,C,q1,q2,q3,q4,q5⟩:=h.fr t x hx
    exact⟨M,m,w,C,q1,q2,q3,q4,fun h=> q5 (by omega)⟩}
theorem W8.re (h:W8 st0 lab0 pv0 s p b i g n K N kv wv lab fs pv al)(hq:Hq s' p [.d (.i .i64 b.cnt),.d (.i .i64 b.tot),.d (.b false),b.F,b.W,K,N] lab fs pv al')(F:Fr8 s s' lab lab pv pv):W8 st0 lab0 pv0 s' p b i g n K N kv wv lab fs pv al':=
  {h with hp:=hq,fr8:=h.fr8.trans F}
end
section
variable {pr:Prog}(hp:Sub so8Fns pr){st0:St}{lab0:Nat→Option Nat}{pv0:List (Nat×V×List D)}{s:St}{p:Nat}{b:S8b}{i n:Nat}{K N:V}{kv wv:List V}{lab:Nat→Option Nat}{fs:Fs}{pv:List (Nat×V×List D)}{al:List (Nat×List V)}
include hp
theorem loopSo2 (h:W8 st0 lab0 pv0 s p b b.fr.length 0 n K N kv wv lab fs pv [])(hn:n≤900000100)(htot:0≤b.tot∧b.tot≤4294967296)(h51:lab 51=none∧fs 51=none){Q:Out→Prop}
    (hQ:∀ e s K N kv wv lab fs pv,lab 51=none∧fs 51=none→e.get 0=some (.ptr p 0)→W8 st0 lab0 pv0 s p b b.fr.length b.fr.length (n+3 * b.fr.length) K N kv wv lab fs pv []→Q (.exit 4,e,s)):
    CodeW pr (.loop [0,4] false F395_b2) [(0,.ptr p 0),(4,.d (.i .i64 0))] s Q:=by
  have hi3:=h.nle.2
  obtain⟨J,hJ⟩:∃ J:Nat→Env→St→Prop,∀ n' e s,J n' e s↔∃ i K N kv wv lab fs pv,i≤b.fr.length∧n'=b.fr.length - i∧e= [(0,.ptr p 0),(4,.d (.i .i64 (i:Nat)))]∧(lab 51=none∧fs 51=none)∧W8 st0 lab0 pv0 s p b b.fr.length i (n+3 * i) K N kv wv lab fs pv []:=⟨_,fun _ _ _=> Iff.rfl⟩
  refine loopW_j wSo J ?_ (n:=b.fr.length) ((hJ _ _ _).2 ⟨0,K,N,kv,wv,lab,fs,pv,Nat.zero_le _,rfl,by simp,h51,h⟩)
  intro n' e s hj
  obtain⟨i,K,N,kv,wv,lab,fs,pv,hi,rfl,rfl,h51,hs⟩:=(hJ _ _ _).1 hj
  have hrow:=hs.hp.row
  have hlF:=hs.hp.len hs.f1
  rcases Nat.lt_or_ge i b.fr.length with hlt | hge
  · have w1:IntKind.wrap .i64 ((i:Int)+1)=i+1:=wrap_i64 (by omega) (by omega)
    obtain⟨T,hT⟩:=Int.eq_ofNat_of_zero_le (a:=b.tot+70) (by omega)
    have w2:IntKind.wrap .i64 (b.tot+70)=T:=by rw[hT];exact wrap_i64 (by omega) (by omega)
    obtain⟨x,hx⟩:∃ x,b.fr[i]? =some x:=⟨_,List.getElem?_eq_getElem hlt⟩
    obtain⟨M,m,w,C,hfi,hMl,_,_,hM⟩:=hs.fr i x hx
    obtain⟨rfl,rfl,rfl⟩:=hM (Nat.le_refl _)
    have hsm:=hs.sm i x hx
    have hself:=(hs.hp.lr _ _ hfi).self
    obtain⟨mk,hmk⟩:∃ mk:Nat→Nm,∀ (k:Nat) st,den pr 398 [.d (.i .i64 (IntKind.wrap .i64 (IntKind.wrap .i64 (IntKind.wrap .i64 (100003 * b.cnt)+IntKind.wrap .i64 (1009 * (i:Int)))+(k:Int))))] st=some (.d (.s (mk k)),st):=⟨fun k=> (den_mine hp _).choose,fun k=> (den_mine hp _).choose_spec⟩
    obtain⟨q,hq⟩:∃ q,q=s.heap.length:=⟨_,rfl⟩
    obtain⟨s2,hs2⟩:∃ s2,s2=s.push (.row [.d (.i .i64 1),.d (.i .i64 2),.d (.i .i64 (T:Nat))]):=⟨_,rfl⟩
    have hset:∀ cs:List V,(s.push (.row [.d (.i .i64 0),.d (.i .i64 0),.d (.i .i64 0)])).setBlk q (.row cs)=some (s.push (.row cs)):=by
      intro cs
      exact setBlk_push hq (by rw[hs.hp.fl];exact Nat.zero_le _)
    simp[F395_b2,wSo,hrow,hlF,hlt,w2,← hq,hset,fillV,reps,lay,ofDs]
    rw[← hs2]
    have h2:W8 st0 lab0 pv0 s2 p b b.fr.length (i+1) (n+3 * i) K N kv wv lab fs pv [(q,[.d (.i .i64 1),.d (.i .i64 2),.d (.i .i64 (T:Nat))])]:=by
      rw[hs2]
      refine(hs.weak (Nat.le_succ _)).re ((hs.hp.push _).alset fun y hy=> ?_) (.push _)
      obtain rfl:=List.mem_singleton.1 hy
      exact⟨row_push_new hq,hs.hp.apNew (by rw[hq];exact Nat.le_refl _)⟩
    refine loopSo3 hp hmk hlt (by omega) (T:=T) (by omega) (List.mem_singleton.2 rfl) hx h2 (by omega) (w:=x.1) (t:=0) ⟨by simpa[mkL]using hfi,hself,h51⟩ ?_
    intro e1 s1 K N kv wv lab fs pv g0 g4 q51 h3
    simp[F395_b2,wSo,g0,g4,w1]
    refine⟨b.fr.length - (i+1),by omega,(hJ _ _ _).2 ⟨i+1,K,N,kv,wv,lab,fs,pv,hlt,rfl,by simp,q51,?_⟩⟩
    exact h3.re (h3.hp.alset fun y hy=> by cases hy) (.refl _ _ _)
  · have:i=b.fr.length:=by omega
    subst this
    simp[F395_b2,wSo,hrow,hlF]
    exact hQ _ _ K N kv wv lab fs pv h51 (by simp) hs
end
end Go.Sh
