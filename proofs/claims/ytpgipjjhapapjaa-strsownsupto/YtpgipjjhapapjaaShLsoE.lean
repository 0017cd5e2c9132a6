/- Part of the proof. -/
import Derived.Test.YtpgipjjhapapjaaShLsoD
set_option linter.unusedVariables false
set_option linter.unusedSimpArgs false
set_option linter.unusedSectionVars false
namespace Go.Sh
theorem W8.keep {st0:St}{lab0:Nat→Option Nat}{pv0:List (Nat×V×List D)}{s s':St}{p:Nat}{b:S8b}{i i' g g' n:Nat}{K N K' N':V}{kv wv:List V}{lab lab':Nat→Option Nat}{fs fs':Fs}{pv:List (Nat×V×List D)}{al al':List (Nat×List V)}(h:W8 st0 lab0 pv0 s p b i g n K N kv wv lab fs pv al){x:V}{L:List Nm}(hii:i≤i')(hgg:g≤g')(hq:Hq s' p [.d (.i .i64 b.cnt),.d (.i .i64 b.tot),.d (.b false),b.F,b.W,K',N'] lab' fs' pv al')(h4:fs' 4=some (1,n+1,K',kv++ [x]))(h5:fs' 5=some (1,n+1,N',wv++ [cpS L]))(E:ElsQ lab lab' fs fs' (fun e=> e=4∨e=5))(F:Fr8 s s' lab lab' pv pv)(hn:n+1≤900001000)(hP:Pend i' fs pv x L)(hl:L.length≤1099511627776):
    W8 st0 lab0 pv0 s' p b i' g' (n+1) K' N' (kv++ [x]) (wv++ [cpS L]) lab' fs' pv al':=by
  have hE:∀ t,fs' (t+6)=fs (t+6):=fun t=> (E _ (by omega)).1
  obtain⟨kl,wl⟩:=h.klen
  exact {
    hp:=hq
    f1:=by rw[(E 1 (by omega)).1];exact h.f1
    f4:=h4
    f5:=h5
    kw:=fun idx q w hq hw=> by
     rcases Nat.lt_or_ge idx n with hlt | hge
     · rw[List.getElem?_append_left (by omega)]at hq hw
       obtain⟨L,h1,h2,h3⟩:=h.kw idx q w hq hw
       exact⟨L,h1.mono hii (fun t _=> hE t) (fun _ h=> h),h2,h3⟩
     · have hb:=(List.getElem?_eq_some_iff.1 hq).1
       rw[List.length_append,List.length_singleton]at hb
       have:idx=n:=by omega
       subst this
       rw[List.getElem?_append_right (by omega),kl]at hq
       rw[List.getElem?_append_right (by omega),wl]at hw
       simp at hq hw
       subst hq hw
       exact⟨L,hP.mono (Nat.le_refl _) (fun t _=> hE t) (fun _ h=> h),rfl,hl⟩
    fr:=fun t y hy=> by
     rw[hE]
     obtain⟨M,m,w,C,q1,q2,q3,q4,q5⟩:=h.fr t y hy
     exact⟨M,m,w,C,q1,q2,q3,q4,fun hg=> q5 (by omega)⟩
    sm:=h.sm
    none:=fun a ha h51=> by obtain⟨e1,e2⟩:=E a (by omega);rw[e1,e2];exact h.none a ha h51
    fr8:=h.fr8.trans F
    nle:=⟨hn,h.nle.2⟩}
section
variable {pr:Prog}(hp:Sub so8Fns pr){st0:St}{lab0:Nat→Option Nat}{pv0:List (Nat×V×List D)}{s:St}{p:Nat}{b:S8b}{n:Nat}{K N:V}{kv wv:List V}{lab:Nat→Option Nat}{fs:Fs}{pv:List (Nat×V×List D)}{al:List (Nat×List V)}
include hp
theorem loopSo0 (h:W8 st0 lab0 pv0 s p b 0 0 n K N kv wv lab fs pv al)(hn:n≤900000000)(h51:lab 51=none∧fs 51=none){Q:Out→Prop}
    (hQ:∀ e s K N kv wv lab fs,lab 51=none∧fs 51=none→e.get 0=some (.ptr p 0)→W8 st0 lab0 pv0 s p b b.fr.length 0 (n+b.fr.length) K N kv wv lab fs pv al→Q (.exit 0,e,s)):
    CodeW pr (.loop [0,2] false F395_b0) [(0,.ptr p 0),(2,.d (.i .i64 0))] s Q:=by
  have hi3:=h.nle.2
  obtain⟨J,hJ⟩:∃ J:Nat→Env→St→Prop,∀ n' e s,J n' e s↔∃ i K N kv wv lab fs,i≤b.fr.length∧n'=b.fr.length - i∧e= [(0,.ptr p 0),(2,.d (.i .i64 (i:Nat)))]∧(lab 51=none∧fs 51=none)∧W8 st0 lab0 pv0 s p b i 0 (n+i) K N kv wv lab fs pv al:=⟨_,fun _ _ _=> Iff.rfl⟩
  refine loopW_j wSo J ?_ (n:=b.fr.length) ((hJ _ _ _).2 ⟨0,K,N,kv,wv,lab,fs,Nat.zero_le _,rfl,by simp,h51,h⟩)
  intro n' e s hj
  obtain⟨i,K,N,kv,wv,lab,fs,hi,rfl,rfl,h51,hs⟩:=(hJ _ _ _).1 hj
  have hrow:=hs.hp.row
  have hlF:=hs.hp.len hs.f1
  rcases Nat.lt_or_ge i b.fr.length with hlt | hge
  · have w1:IntKind.wrap .i64 ((i:Int)+1)=i+1:=wrap_i64 (by omega) (by omega)
    obtain⟨x,hx⟩:∃ x,b.fr[i]? =some x:=⟨_,List.getElem?_eq_getElem hlt⟩
    simp[F395_b0,wSo,hrow,hlF,hlt]
    refine loopSo1 hp hs hx ?_
    intro e1 s1 fs1 f51 g0 g2 h1
    have hrow1:=h1.hp.row
    obtain⟨jF,cF,hjF,a1,a2,a3,a4⟩:=h1.hp.get h1.f1 i (x:=x.1) (by simp[hx]) (k:= .i64)
    obtain⟨M,m,w,C,hfi,hMl,_,_,hM⟩:=h1.fr i x hx
    obtain⟨rfl,rfl,rfl⟩:=hM (Nat.zero_le _)
    simp[wSo,g0,g2,hrow1,a1,a2,a3,a4]
    have hlr:=h1.hp.lr _ _ hfi
    have hsm:=h1.sm i x hx
    refine callW_keep8 hp h1.hp h1.f4 h1.f5 hlr.lst.1 (by omega) (fun r hr=> ?_) (by omega) ?_
    · have hl:lab (i+6)=some r:=by rw[← hr];exact hlr.lst.2.1.symm
      refine⟨fun e=> ?_,fun e=> ?_⟩
      · have:=h1.hp.labs.sep _ _ _ hl e;omega
      · have:=h1.hp.labs.sep _ _ _ hl e;omega
    intro s2 K' N' lab' fs' k1 k2 k3 k4 k5
    simp[F395_b0,wSo,w1]
    refine⟨b.fr.length - (i+1),by omega,(hJ _ _ _).2 ⟨i+1,K',N',kv++ [x.1],wv++ [cpS C],lab',fs',hlt,rfl,by simp,by rw[(k4 51 (by omega)).1,(k4 51 (by omega)).2,f51];exact h51,?_⟩⟩
    exact h1.keep (Nat.le_succ _) (Nat.le_refl _) k1 k2 k3 k4 k5 (by omega) (.inr ⟨i,_,_,_,_,Nat.lt_succ_self _,hfi,hlr.self,List.take_of_length_le (Nat.le_refl _)⟩) (by omega)
  · have:i=b.fr.length:=by omega
    subst this
    simp[F395_b0,wSo,hrow,hlF]
    exact hQ _ _ K N kv wv lab fs h51 (by simp) hs
end
end Go.Sh
