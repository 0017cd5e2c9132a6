/- Part of the proof. -/
import Derived.Test.YtpgipjjhapapjaaShLsoH
set_option linter.unusedVariables false
set_option linter.unusedSimpArgs false
set_option linter.unusedSectionVars false
namespace Go.Sh
theorem Fr8.self {st:St}{p:Nat}{R:List V}{lab:Nat→Option Nat}{pv:List (Nat×V×List D)}(hp:lab 0=some p){P:V→Prop}(g:Gr st (st.put p R) (fun r=> r=p) P):Fr8 st (st.put p R) lab lab pv pv:= .at (g.mono (fun r _ e=> ⟨0,by rw[e];exact hp⟩) fun _ h=> h)
section
variable {pr:Prog}(hp:Sub so8Fns pr)(hr:Sub ref8Fns pr){st:St}{p:Nat}{b:S8b}{lab:Nat→Option Nat}{fs:Fs}{pv:List (Nat×V×List D)}
include hp hr
theorem callW_write8 (h:S8 st p b lab fs pv [])(hk:b.kv.length≤899999900){Q:V→St→Prop}
    (hQ:∀ s b' lab' fs' pv',S8 s p b' lab' fs' pv' []→b'.cnt=b.cnt→b'.tot=b.tot→b'.kv.length≤b.kv.length+12→b'.fr= []→Fr8 st s lab lab' pv pv'→Q (.tup []) s):CallW pr 395 [.ptr p 0] st Q:=by
  refine .run wSo (hp.at 2 rfl) rfl ?_
  rw[start_raw _ rfl]
  refine codeC_of ?_
  have hrow:=h.hp.row
  simp only[S8b.R]at hrow
  have hi3:=h.small.1
  have hset:∀ cs,st.setBlk p (.row cs)=some (st.put p cs):=fun cs=> setBlk_put h.hp.fl
  have h51:lab 51=none∧fs 51=none:=h.none 51 (by omega)
  simp[F395,wSo,hrow]
  refine(callW_unt8 hp hr h).mono ?_
  rintro r s' ⟨rfl,rfl⟩
  obtain⟨h1,g1⟩:=h.hp.put (R':=b.R) rfl
  obtain⟨s1,hs1⟩:∃ s1,s1=st.put p b.R:=⟨_,rfl⟩
  rw[← hs1]at h1 g1
  have hF1:Fr8 st s1 lab lab pv pv:=by rw[hs1]at g1 ⊢;exact .self h.hp.p0 g1
  simp only[S8b.R]at hs1
  simp[wSo,hrow,hset,lay,ofDs,← hs1]
  have h2:=h.w8.re (s':=s1) h1 hF1
  refine loopSo0 hp h2 (by omega) h51 ?_
  intro e3 s3 K N kv wv lab3 fs3 q51 g0 h3
  simp[wSo,g0]
  refine loopSo2 hp (h3.weak (Nat.le_refl _)) (by omega) h.total q51 ?_
  intro e4 s4 K N kv wv lab4 fs4 pv4 q51 g0 h4
  obtain⟨kl,wl⟩:=h4.klen
  obtain⟨s5,lab5,fs5,pv5,hs5,r1,r2,f1,f2,h5,F5⟩:=h4.fin q51 (by omega) h.total
  have hset1:∀ cs,s4.setBlk p (.row cs)=some (s4.put p cs):=fun cs=> setBlk_put f1
  have hset2:∀ cs,(s4.put p [.d (.i .i64 b.cnt),.d (.i .i64 b.tot),.d (.b false),.d (.sl 0 false []),b.W,K,N]).setBlk p (.row cs)=some ((s4.put p [.d (.i .i64 b.cnt),.d (.i .i64 b.tot),.d (.b false),.d (.sl 0 false []),b.W,K,N]).put p cs):=fun cs=> setBlk_put f2
  simp[wSo,g0,r1,hset1,lay,ofDs,r2,hset2,← hs5,FinW]
  exact hQ s5 _ lab5 fs5 pv5 h5 rfl rfl (by simp only;omega) rfl F5
end
end Go.Sh
