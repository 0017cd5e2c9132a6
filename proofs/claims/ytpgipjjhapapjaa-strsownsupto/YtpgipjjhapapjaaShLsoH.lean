/- Part of the proof. -/
import Derived.Test.YtpgipjjhapapjaaShLsoG
set_option linter.unusedVariables false
set_option linter.unusedSimpArgs false
set_option linter.unusedSectionVars false
namespace Go.Sh
def unS:V→List D
  | .d (.sl _ _ l)=> l
  | _=> []
theorem unS_cp (L:List Nm):unS (cpS L)=flD sC L:=by rw[flD_s];rfl
section
variable {s:St}{p:Nat}{R:List V}{lab:Nat→Option Nat}{fs:Fs}{pv:List (Nat×V×List D)}{al:List (Nat×List V)}
theorem Hq.protL (h:Hq s p R lab fs pv []):∀ E:List (Nat×V×List D),(∀ y∈E,Lst s y.1 y.2.1 y.2.2∧Free lab y.2.1)→Hq s p R lab fs (E++pv) []
  | [],_=> h
  | y::E,hE=> (Hq.protL h E fun z hz=> hE z (List.mem_cons_of_mem _ hz)).prot (hE y (List.mem_cons_self ..)).1 (hE y (List.mem_cons_self ..)).2 fun x hx=> by cases hx
theorem Hq.drop3 (h:Hq s p R lab fs pv al):∃ lab' fs',Hq s p R lab' fs' pv al∧(∀ a,a < 6→lab' a=lab a∧fs' a=fs a)∧(∀ a,6≤a→(a≤8∨(lab a=none∧fs a=none))→lab' a=none∧fs' a=none)∧(∀ a r,lab' a=some r→lab a=some r∧(a < 6∨8 < a)):=by
  refine⟨_,_,((h.drop (a:=6) (by omega)).drop (a:=7) (by omega)).drop (a:=8) (by omega),fun a ha=> ?_,fun a ha h=> ?_,fun a r hr=> ?_⟩
  · rw[upd_ne (by omega),upd_ne (by omega),upd_ne (by omega),updF_ne (by omega),updF_ne (by omega),updF_ne (by omega)]
    exact⟨rfl,rfl⟩
  · by_cases h8:a=8
    · subst h8;exact⟨upd_eq,updF_eq⟩
    rw[upd_ne h8,updF_ne h8]
    by_cases h7:a=7
    · subst h7;exact⟨upd_eq,updF_eq⟩
    rw[upd_ne h7,updF_ne h7]
    by_cases h6:a=6
    · subst h6;exact⟨upd_eq,updF_eq⟩
    rw[upd_ne h6,updF_ne h6]
    exact h.resolve_left (by omega)
  · by_cases h8:a=8
    · subst h8;rw[upd_eq]at hr;cases hr
    rw[upd_ne h8]at hr
    by_cases h7:a=7
    · subst h7;rw[upd_eq]at hr;cases hr
    rw[upd_ne h7]at hr
    by_cases h6:a=6
    · subst h6;rw[upd_eq]at hr;cases hr
    rw[upd_ne h6]at hr
    exact⟨hr,by omega⟩
end
section
variable {pr:Prog}(hp:Sub so8Fns pr)(hr:Sub ref8Fns pr){st:St}{p:Nat}{b:S8b}{lab:Nat→Option Nat}{fs:Fs}{pv:List (Nat×V×List D)}
theorem S8.w8 (h:S8 st p b lab fs pv []):W8 st lab pv st p b 0 0 b.kv.length b.K b.N b.kv b.wv lab fs pv [] where
  hp:=h.hp
  f1:=h.f1
  f4:=h.f4
  f5:=h.f5
  kw:=fun idx k w hk hw=> by
   obtain⟨L,h1,h2,h3⟩:=h.kw idx k w hk hw
   exact⟨L,.inl h1,h2,h3⟩
  fr:=fun t x hx=> by
   obtain⟨h1,h2⟩:=h.ff t x hx
   exact⟨x.2,x.2.length,x.1,x.2,h1,rfl,(h.hp.lr _ _ h1).self,List.take_of_length_le (Nat.le_refl _),fun _=> ⟨rfl,rfl,rfl⟩⟩
  sm:=fun t x hx=> (h.ff t x hx).2
  none:=fun a ha _=> h.none a ha
  fr8:= .refl _ _ _
  nle:=⟨by have:=h.small;omega,h.small.1⟩
theorem W8.fin {st0:St}{lab0:Nat→Option Nat}{pv0:List (Nat×V×List D)}{s:St}{n:Nat}{K N:V}{kv wv:List V}(h:W8 st0 lab0 pv0 s p b b.fr.length b.fr.length n K N kv wv lab fs pv [])(h51:lab 51=Option.none∧fs 51=Option.none)(hn:n≤900000000)(ht:0≤b.tot∧b.tot≤4294967296):∃ s' lab' fs' pv',s'=(s.put p [.d (.i .i64 b.cnt),.d (.i .i64 b.tot),.d (.b false),.d (.sl 0 false []),b.W,K,N]).put p [.d (.i .i64 b.cnt),.d (.i .i64 b.tot),.d (.b false),.d (.sl 0 false []),.d (.sl 0 false []),K,N]∧s.row p=some [.d (.i .i64 b.cnt),.d (.i .i64 b.tot),.d (.b false),b.F,b.W,K,N]∧(s.put p [.d (.i .i64 b.cnt),.d (.i .i64 b.tot),.d (.b false),.d (.sl 0 false []),b.W,K,N]).row p=some [.d (.i .i64 b.cnt),.d (.i .i64 b.tot),.d (.b false),.d (.sl 0 false []),b.W,K,N]∧s.floor=0∧(s.put p [.d (.i .i64 b.cnt),.d (.i .i64 b.tot),.d (.b false),.d (.sl 0 false []),b.W,K,N]).floor=0∧S8 s' p ⟨b.cnt,b.tot,.d (.sl 0 false []),.d (.sl 0 false []),K,N,[],[],kv,wv⟩ lab' fs' pv' []∧Fr8 st0 s' lab0 lab' pv0 pv':=by
  have hi3:=h.nle.2
  obtain⟨kl,wl⟩:=h.klen
  obtain⟨lab1,fs1,h1,d1,d2,d3⟩:=h.hp.drop3
  have hE:∀ y∈((kv.zip wv).map fun y=> (1,y.1,unS y.2):List (Nat×V×List D)),(Lst s y.1 y.2.1 y.2.2∧Free lab1 y.2.1)∧∀ r,foot y.2.1=some r→(∃ x∈pv,foot x.2.1=some r)∨∃ c,lab c=some r:=by
    intro y hy
    obtain⟨⟨k,w⟩,hz,rfl⟩:=List.mem_map.1 hy
    obtain⟨idx,hidx⟩:=List.getElem?_of_mem hz
    rw[List.getElem?_zip_eq_some]at hidx
    obtain⟨L,hP,hw,hL⟩:=h.kw idx k w hidx.1 hidx.2
    simp only[hw,unS_cp]
    rcases hP with hP | ⟨t,m,u,C,j,e1,e2,e3,e4⟩
    · obtain⟨q1,q2⟩:=h.hp.pv _ hP
      exact⟨⟨q1,fun r hr c hc=> q2 r hr c (d3 c r hc).1⟩,fun r hr=> .inl ⟨_,hP,hr⟩⟩
    · obtain⟨u1,u2⟩:=h.hp.subs e2 e3 (L:=flD sC L) (by
        rw[ofDs_take,← e4]
        simp[flD_s,List.map_take])
      refine⟨⟨u1,fun r hr c hc=> ?_⟩,fun r hr=> .inr ⟨_,u2 r hr⟩⟩
      obtain⟨q1,q2⟩:=d3 c r hc
      have:=h.hp.labs.sep _ _ _ q1 (u2 r hr)
      omega
  obtain⟨E,hEd⟩:∃ E,E=((kv.zip wv).map fun y=> (1,y.1,unS y.2):List (Nat×V×List D)):=⟨_,rfl⟩
  rw[← hEd]at hE
  have h2:=h1.protL E fun y hy=> (hE y hy).1
  obtain⟨h3,g3⟩:=h2.put (R':= [.d (.i .i64 b.cnt),.d (.i .i64 b.tot),.d (.b false),.d (.sl 0 false []),b.W,K,N]) rfl
  obtain⟨h4,g4⟩:=h3.put (R':= [.d (.i .i64 b.cnt),.d (.i .i64 b.tot),.d (.b false),.d (.sl 0 false []),.d (.sl 0 false []),K,N]) rfl
  have h5:=(h4.nil (a:=1) (sz:=1) (by omega)).nil (a:=2) (sz:=1) (by omega)
  refine⟨_,upd (upd lab1 1 Option.none) 2 Option.none,updF (updF fs1 1 (some (1,0,.d (.sl 0 false []),[]))) 2 (some (1,0,.d (.sl 0 false []),[])),E++pv,rfl,h.hp.row,h3.row,h.hp.fl,h3.fl,?_,?_⟩
  · exact {
      hp:=h5
      f1:=by simp[updF]
      f2:=by simp[updF]
      f4:=by rw[updF_ne (by omega),updF_ne (by omega),(d1 4 (by omega)).2,kl];exact h.f4
      f5:=by rw[updF_ne (by omega),updF_ne (by omega),(d1 5 (by omega)).2,kl];exact h.f5
      ff:=fun i x hx=> by simp at hx
      hh:=fun i x h hx=> by simp at hx
      kw:=fun i k w hk hw=> by
       obtain⟨L,hP,hw',hL⟩:=h.kw i k w hk hw
       refine⟨L,List.mem_append_left _ ?_,hw',hL⟩
       rw[hEd]
       refine List.mem_map.2 ⟨(k,w),?_,by rw[hw',← unS_cp]⟩
       exact List.mem_of_getElem? (i:=i) (List.getElem?_zip_eq_some.2 ⟨hk,hw⟩)
      none:=fun a ha=> by
        simp at ha
        rw[upd_ne (by omega),upd_ne (by omega),updF_ne (by omega),updF_ne (by omega)]
        refine d2 a ha ?_
        by_cases h8:a≤8
        · exact .inl h8
        · by_cases h5:a=51
          · subst h5;exact .inr h51
          · exact .inr (h.none a (by omega) h5)
      small:=⟨by simp,by simp only;omega⟩
      total:=ht}
  · refine h.fr8.trans ⟨((g3.trans (g4.mono (fun _ _ e=> e) fun _ _=> trivial)).mono (fun r _ e=> ⟨0,by rw[e];exact h.hp.p0⟩) fun _ h=> h),fun a r e=> ?_,fun y hy r e=> ?_⟩
    · by_cases a2:a=2
      · subst a2;rw[upd_eq]at e;cases e
      rw[upd_ne a2]at e
      by_cases a1:a=1
      · subst a1;rw[upd_eq]at e;cases e
      rw[upd_ne a1]at e
      exact .inl ⟨a,(d3 a r e).1⟩
    · rcases List.mem_append.1 hy with hy | hy
      · rcases(hE y hy).2 r e with q | q
        · exact .inl q
        · exact .inr (.inl q)
      · exact .inl ⟨y,hy,e⟩
end
end Go.Sh
