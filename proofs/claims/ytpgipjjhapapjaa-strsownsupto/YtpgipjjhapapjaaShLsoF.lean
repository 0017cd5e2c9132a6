/- Part of the proof. -/
import Derived.Test.YtpgipjjhapapjaaShLsoE
set_option linter.unusedVariables false
set_option linter.unusedSimpArgs false
set_option linter.unusedSectionVars false
namespace Go.Sh
theorem flD_inj {L M:List Nm}(h:ofDs (flD sC L)=ofDs (flD sC M)):L=M:=by
  rw[flD_s,flD_s]at h
  unfold ofDs at h
  rw[List.map_map,List.map_map]at h
  exact List.map_inj_right (fun a b e=> by simpa using e) |>.1 h
theorem mkL_pre {α:Type}(mk:Nat→α){k t:Nat}(h:k≤t):∃ r,mkL mk t=mkL mk k++r:=by
  rcases Nat.lt_or_ge k t with h1 | h1
  · obtain⟨r,hr⟩:=mkL_split mk h1
    exact⟨_,hr⟩
  · have:k=t:=by omega
    subst this
    exact⟨[],by simp⟩
theorem Sub'.le {sz n m:Nat}{v w:V}(h:Sub' sz v n w m):n≤m:=by
  rcases h with⟨_,rfl⟩ | ⟨_,_,_,_,h,_⟩
  · exact Nat.zero_le _
  · exact h
theorem W8.grow {st0:St}{lab0:Nat→Option Nat}{pv0:List (Nat×V×List D)}{s s':St}{p:Nat}{b:S8b}{i i0 g n:Nat}{K N:V}{kv wv:List V}{lab lab':Nat→Option Nat}{fs fs':Fs}{pv pv':List (Nat×V×List D)}{al:List (Nat×List V)}(h:W8 st0 lab0 pv0 s p b i g n K N kv wv lab fs pv al)(hi:i≤3)(hi0:i0 < 3)(hg:i0 < g){m m':Nat}{w w':V}{C C':List Nm}(g1:fs (i0+6)=some (1,m,w,ofDs (flD sC C)))(g2:fs' (i0+6)=some (1,m',w',ofDs (flD sC C')))(hC:∀ k,k≤m→C'.take k=C.take k)(hsub:∀ u k,Sub' 1 u k w m→Sub' 1 u k w' m')
    (hq:Hq s' p [.d (.i .i64 b.cnt),.d (.i .i64 b.tot),.d (.b false),b.F,b.W,K,N] lab' fs' pv' al) (E:ElsQ lab lab' fs fs' (fun e=> e=i0+6∨e=51)) (F:Fr8 s s' lab lab' pv pv') (hpv:∀ y∈pv,y∈pv'):W8 st0 lab0 pv0 s' p b i g n K N kv wv lab' fs' pv' al where
  hp:=hq
  f1:=by rw[(E 1 (by omega)).1];exact h.f1
  f4:=by rw[(E 4 (by omega)).1];exact h.f4
  f5:=by rw[(E 5 (by omega)).1];exact h.f5
  kw:=fun idx q x hq hx=> by
   obtain⟨L,h1,h2,h3⟩:=h.kw idx q x hq hx
   refine⟨L,?_,h2,h3⟩
   rcases h1 with h1 | ⟨t,m1,w1,C1,k,e1,e2,e3,e4⟩
   · exact .inl (hpv _ h1)
   · by_cases ht:t=i0
     · subst ht
       rw[g1]at e2
       simp only[Option.some.injEq,Prod.mk.injEq,true_and]at e2
       obtain⟨rfl,rfl,e2⟩:=e2
       obtain rfl:=flD_inj e2
       exact .inr ⟨t,_,_,_,k,e1,g2,hsub _ _ e3,(hC k e3.le).trans e4⟩
     · exact .inr ⟨t,m1,w1,C1,k,e1,by rw[(E (t+6) (by omega)).1];exact e2,e3,e4⟩
  fr:=fun t y hy=> by
   have hb:=(List.getElem?_eq_some_iff.1 hy).1
   have:=h.nle.2
   obtain⟨M,m1,w1,C1,q1,q2,q3,q4,q5⟩:=h.fr t y hy
   by_cases ht:t=i0
   · subst ht
     rw[g1]at q1
     simp only[Option.some.injEq,Prod.mk.injEq,true_and]at q1
     obtain⟨rfl,rfl,q1⟩:=q1
     obtain rfl:=flD_inj q1
     exact⟨M,m',w',C',g2,q2,hsub _ _ q3,(hC _ q3.le).trans q4,fun h=> by omega⟩
   · exact⟨M,m1,w1,C1,by rw[(E (t+6) (by omega)).1];exact q1,q2,q3,q4,q5⟩
  sm:=h.sm
  none:=fun a ha h51=> by
    have:=h.nle.2
    by_cases hai:a=i0+6
    · subst hai
      rw[(h.none _ ha h51).2]at g1;cases g1
    · obtain⟨e1,e2⟩:=E a (by omega);rw[e1,e2];exact h.none a ha h51
  fr8:=h.fr8.trans F
  nle:=h.nle
theorem Fr8.gl {s s':St}{lab lab':Nat→Option Nat}{fs fs':Fs}{pv:List (Nat×V×List D)}{a b:Nat}{P:V→Prop}(g:Gr s s' (fun r=> lab a=some r∨lab b=some r) P)(E:ElsQ lab lab' fs fs' (fun e=> e=a∨e=b))(ha:lab' a=lab a)(hb:∀ r,lab' b=some r→lab b=some r∨s.heap.length≤r):Fr8 s s' lab lab' pv pv:=by
  refine⟨g.mono (fun r _ e=> e.elim (fun e=> ⟨a,e⟩) fun e=> ⟨b,e⟩) fun _ _=> trivial,fun x r e=> ?_,fun y hy r h=> .inl ⟨y,hy,h⟩⟩
  by_cases hxa:x=a
  · subst hxa;exact .inl ⟨x,by rw[← ha];exact e⟩
  · by_cases hxb:x=b
    · subst hxb
      exact(hb r e).imp (fun e=> ⟨x,e⟩) id
    · exact .inl ⟨x,by rw[← (E x (by omega)).2];exact e⟩
def Grown8 (lab:Nat→Option Nat)(fs:Fs)(i:Nat)(M:List Nm)(mk:Nat→Nm)(w:V)(t:Nat)(x:V):Prop:=fs (i+6)=some (1,M.length+t,w,ofDs (flD sC (M++mkL mk t)))∧Sub' 1 x M.length w (M.length+t)∧lab 51=none∧fs 51=none
section
variable {pr:Prog}(hp:Sub so8Fns pr){st0:St}{lab0:Nat→Option Nat}{pv0:List (Nat×V×List D)}{s:St}{p:Nat}{b:S8b}{i n:Nat}{K N:V}{kv wv:List V}{lab:Nat→Option Nat}{fs:Fs}{pv:List (Nat×V×List D)}{al:List (Nat×List V)}{mk:Nat→Nm}{M:List Nm}{q j T:Nat}{Rq:List V}
include hp
theorem loopSo4 (hmk:∀ (k:Nat) st,den pr 398 [.d (.i .i64 (IntKind.wrap .i64 (IntKind.wrap .i64 (IntKind.wrap .i64 (100003 * b.cnt)+IntKind.wrap .i64 (1009 * (i:Int)))+(k:Int))))] st=some (.d (.s (mk k)),st))(hi:i < b.fr.length)(hM:M.length≤4294967296)(hT:T≤6000000000)(hal:(q,Rq)∈al)(hq1:iaddrAV 3 1 (.ptr q 0) (.d (.i .i64 (j:Int)))=some (.ptr q j))(hq2:j+1≤Rq.length)(hq3:(Rq.drop j).take 1= [.d (.i .i64 (T:Nat))])
    (h:W8 st0 lab0 pv0 s p b b.fr.length (i+1) n K N kv wv lab fs pv al) {w l:V} {t:Nat} (hgl:GL sC lab fs (i+6) 51 1 M.length M mk w t 0 l) {Q:Out→Prop}
    (hQ:∀ e s l w' t' lab fs,e.get 0=some (.ptr p 0)→e.get 4=some (.d (.i .i64 (i:Nat)))→e.get 5=some (.ptr q 0)→e.get 6=some (.d (.i .i64 (j:Nat)))→e.get 7=some l→GL sC lab fs (i+6) 51 1 M.length M mk w' t' T l→(∀ u m,Sub' 1 u m w (M.length+t)→Sub' 1 u m w' (M.length+t'))→W8 st0 lab0 pv0 s p b b.fr.length (i+1) n K N kv wv lab fs pv al→Q (.exit 8,e,s)):
    CodeW pr (.loop [0,4,5,6,7,8] false F395_b4) [(0,.ptr p 0),(4,.d (.i .i64 (i:Nat))),(5,.ptr q 0),(6,.d (.i .i64 (j:Nat))),(7,l),(8,.d (.i .i64 0))] s Q:=by
  have hi3:=h.nle.2
  obtain⟨J,hJ⟩:∃ J:Nat→Env→St→Prop,∀ n' e s,J n' e s↔∃ k l w' t' lab fs,k≤T∧n'=T - k∧e= [(0,.ptr p 0),(4,.d (.i .i64 (i:Nat))),(5,.ptr q 0),(6,.d (.i .i64 (j:Nat))),(7,l),(8,.d (.i .i64 (k:Nat)))]∧GL sC lab fs (i+6) 51 1 M.length M mk w' t' k l∧(∀ u m,Sub' 1 u m w (M.length+t)→Sub' 1 u m w' (M.length+t'))∧W8 st0 lab0 pv0 s p b b.fr.length (i+1) n K N kv wv lab fs pv al:=⟨_,fun _ _ _=> Iff.rfl⟩
  refine loopW_j wSo J ?_ (n:=T) ((hJ _ _ _).2 ⟨0,l,w,t,lab,fs,Nat.zero_le _,rfl,by simp,hgl,fun _ _ h=> h,h⟩)
  intro n' e s hj
  obtain⟨k,l,w',t',lab,fs,hk,rfl,rfl,hg,hsub,hs⟩:=(hJ _ _ _).1 hj
  have hrow:=hs.hp.row
  have hrq:=(hs.hp.al _ hal).1
  simp only at hrq
  rcases Nat.lt_or_ge k T with hlt | hge
  · have w1:IntKind.wrap .i64 ((k:Int)+1)=k+1:=wrap_i64 (by omega) (by omega)
    have hmk1:=hmk k
    obtain⟨X,hX⟩:∃ X:Int,X=IntKind.wrap .i64 (IntKind.wrap .i64 (IntKind.wrap .i64 (100003 * b.cnt)+IntKind.wrap .i64 (1009 * (i:Int)))+(k:Int)):=⟨_,rfl⟩
    rw[← hX]at hmk1
    simp[F395_b4,wSo,hrow,hq1,hrq,hq2,hq3,hlt,← hX,hmk1,fillV,reps,lay,ofDs]
    refine GL.step (sz:=1) sC1 (by omega) (hs.hp.push _) (by omega) (by omega) (by omega) rfl hg (vwV_lit s (.d (.s (mk k)))) rfl (by omega) (by omega) ?_
    intro s' l' w2 t2 lab' fs' h2 hg2 htt hsub2 E e2 gr nb
    have F:=(Fr8.push (a:=s) (l:=lab) (v:=pv) (.row [.d (.s (mk k))])).trans (Fr8.gl (pv:=pv) gr E e2 nb)
    obtain⟨r,hr⟩:=mkL_pre mk htt
    have h3:=hs.grow (by omega) (by omega) (by omega) hg.1 hg2.1 (fun k hk=> by
      rw[hr,← List.append_assoc,List.take_append_of_le_length]
      rw[List.length_append,mkL_len];exact hk) hsub2 h2 E F (fun _ h=> h)
    simp[F395_b4,wSo,w1]
    exact⟨T - (k+1),by omega,(hJ _ _ _).2 ⟨k+1,l',w2,t2,lab',fs',hlt,rfl,by simp,hg2,fun u m hu=> hsub2 u m (hsub u m hu),h3⟩⟩
  · have:k=T:=by omega
    subst this
    simp[F395_b4,wSo,hrow,hq1,hrq,hq2,hq3]
    exact hQ _ _ l w' t' lab fs (by simp) (by simp) (by simp) (by simp) (by simp) hg hsub hs
theorem loopSo3 (hmk:∀ (k:Nat) st,den pr 398 [.d (.i .i64 (IntKind.wrap .i64 (IntKind.wrap .i64 (IntKind.wrap .i64 (100003 * b.cnt)+IntKind.wrap .i64 (1009 * (i:Int)))+(k:Int))))] st=some (.d (.s (mk k)),st))(hi:i < b.fr.length)(hM:M.length≤4294967296)(hT:T≤6000000000)(hal:(q,[.d (.i .i64 1),.d (.i .i64 2),.d (.i .i64 (T:Nat))])∈al){x:V×List Nm}(hx:b.fr[i]? =some x)
    (h:W8 st0 lab0 pv0 s p b b.fr.length (i+1) n K N kv wv lab fs pv al) (hn:n≤900000900) {w:V} {t:Nat} (hgl:Grown8 lab fs i M mk w t x.1) {Q:Out→Prop}
    (hQ:∀ e s K N kv wv lab fs pv,e.get 0=some (.ptr p 0)→e.get 4=some (.d (.i .i64 (i:Nat)))→lab 51=none∧fs 51=none→W8 st0 lab0 pv0 s p b b.fr.length (i+1) (n+3) K N kv wv lab fs pv al→Q (.exit 6,e,s)):
    CodeW pr (.loop [0,4,5,6] false F395_b3) [(0,.ptr p 0),(4,.d (.i .i64 (i:Nat))),(5,.ptr q 0),(6,.d (.i .i64 0))] s Q:=by
  have hi3:=h.nle.2
  obtain⟨J,hJ⟩:∃ J:Nat→Env→St→Prop,∀ n' e s,J n' e s↔∃ j K N kv wv lab fs pv w t,j≤3∧n'=3 - j∧e= [(0,.ptr p 0),(4,.d (.i .i64 (i:Nat))),(5,.ptr q 0),(6,.d (.i .i64 (j:Nat)))]∧Grown8 lab fs i M mk w t x.1∧W8 st0 lab0 pv0 s p b b.fr.length (i+1) (n+j) K N kv wv lab fs pv al:=⟨_,fun _ _ _=> Iff.rfl⟩
  refine loopW_j wSo J ?_ (n:=3) ((hJ _ _ _).2 ⟨0,K,N,kv,wv,lab,fs,pv,w,t,Nat.zero_le _,rfl,by simp,hgl,h⟩)
  intro n' e s hj
  obtain⟨j,K,N,kv,wv,lab,fs,pv,w,t,hj3,rfl,rfl,hg,hs⟩:=(hJ _ _ _).1 hj
  have hrow:=hs.hp.row
  obtain⟨jF,cF,hjF,a1,a2,a3,a4⟩:=hs.hp.get hs.f1 i (x:=x.1) (by simp[hx]) (k:= .i64)
  rcases Nat.lt_or_ge j 3 with hlt | hge
  · have w1:IntKind.wrap .i64 ((j:Int)+1)=j+1:=wrap_i64 (by omega) (by omega)
    have hlt':(j:Int) < 3:=by omega
    obtain⟨T',hT',hq1,hq2,hq3⟩:∃ T':Nat,T'≤6000000000∧iaddrAV 3 1 (.ptr q 0) (.d (.i .i64 (j:Int)))=some (.ptr q j)∧j+1≤([.d (.i .i64 1),.d (.i .i64 2),.d (.i .i64 (T:Nat))]:List V).length∧(([.d (.i .i64 1),.d (.i .i64 2),.d (.i .i64 (T:Nat))]:List V).drop j).take 1= [.d (.i .i64 (T':Nat))]:=by
      rcases(by omega:j=0∨j=1∨j=2) with rfl | rfl | rfl
      · exact⟨1,by omega,rfl,by simp,rfl⟩
      · exact⟨2,by omega,rfl,by simp,rfl⟩
      · exact⟨T,hT,rfl,by simp,rfl⟩
    simp[F395_b3,wSo,hrow,a1,a2,a3,a4,hlt',hlt]
    obtain⟨hg1,hg2,hg3⟩:=hg
    refine loopSo4 hp hmk hi hM hT' hal hq1 hq2 hq3 hs (w:=w) (t:=t) ⟨hg1,.inl ⟨Nat.zero_le _,hg2,hg3⟩⟩ ?_
    intro e1 s1 l w' t' lab1 fs1 g0 g4 g5 g6 g7 hgl1 hsub1 h1
    simp[wSo,g0,g4,g5,g6,g7]
    obtain⟨k1,k2⟩:=hgl1
    have hAk:(M++mkL mk T').length=M.length+T':=by rw[List.length_append,mkL_len]
    -- the grown list stays
    obtain⟨lab2,fs2,pv2,h2,hl,hfo,hP,h51,hsame⟩:∃ lab2 fs2 pv2,W8 st0 lab0 pv0 s1 p b b.fr.length (i+1) (n+j) K N kv wv lab2 fs2 pv2 al∧Lst s1 1 l (flD sC (M++mkL mk T'))∧(∀ r,foot l=some r→lab2 0≠some r∧lab2 4≠some r)∧Pend b.fr.length fs2 pv2 l (M++mkL mk T')∧(lab2 51=none∧fs2 51=none)∧fs2 (i+6)=fs1 (i+6):=by
      rcases k2 with⟨q1,q2,q3⟩ | q1
      · obtain⟨r,hr⟩:=mkL_pre mk q1
        have htk:(M++mkL mk t').take (M.length+T')=M++mkL mk T':=by rw[hr,← List.append_assoc,← hAk,List.take_left' rfl]
        obtain⟨u1,u2⟩:=h1.hp.subs k1 q2 (L:=flD sC (M++mkL mk T')) (by
          rw[ofDs_take,← hAk,hr,← List.append_assoc,flD_take sC1])
        refine⟨lab1,fs1,pv,h1,u1,fun r hr=> ⟨fun e=> ?_,fun e=> ?_⟩,.inr ⟨i,_,_,_,_,hi,k1,q2,htk⟩,q3,rfl⟩
        · have:=h1.hp.labs.sep _ _ _ (u2 r hr) e;omega
        · have:=h1.hp.labs.sep _ _ _ (u2 r hr) e;omega
      · have hd:=h1.hp.done (a:=51) (by omega) q1
        have hlr:=h1.hp.lr _ _ q1
        obtain⟨u1,u2⟩:=hd.pv _ (List.mem_cons_self ..)
        refine⟨_,_,_,h1.grow (by omega) (by omega) (by omega) k1 (by rw[updF_ne (by omega)];exact k1) (fun _ _=> rfl) (fun _ _ h=> h) hd (ElsQ.upd.mono fun e he=> .inr he) (.done fun r hr=> by rw[← hr];exact hlr.lst.2.1.symm) (fun y hy=> List.mem_cons_of_mem _ hy),u1,fun r hr=> ⟨u2 r hr 0,u2 r hr 4⟩,.inl (List.mem_cons_self ..),⟨upd_eq,updF_eq⟩,updF_ne (by omega)⟩
    have hrow1:=h2.hp.row
    refine callW_keep8 hp h2.hp h2.f4 h2.f5 hl (by omega) hfo (by omega) ?_
    intro s3 K' N' lab' fs' m1 m2 m3 m4 m5
    simp[F395_b3,wSo,w1]
    refine⟨3 - (j+1),by omega,(hJ _ _ _).2 ⟨j+1,K',N',kv++ [l],wv++ [cpS (M++mkL mk T')],lab',fs',pv2,w',t',hlt,rfl,by simp,⟨?_,hsub1 _ _ hg2,?_⟩,?_⟩⟩
    · rw[(m4 (i+6) (by omega)).1,hsame];exact k1
    · rw[(m4 51 (by omega)).1,(m4 51 (by omega)).2];exact h51
    · exact h2.keep (Nat.le_refl _) (Nat.le_refl _) m1 m2 m3 m4 m5 (by omega) hP (by omega)
  · have:j=3:=by omega
    subst this
    simp[F395_b3,wSo]
    exact hQ _ _ K N kv wv lab fs pv (by simp) (by simp) hg.2.2 hs
end
end Go.Sh
