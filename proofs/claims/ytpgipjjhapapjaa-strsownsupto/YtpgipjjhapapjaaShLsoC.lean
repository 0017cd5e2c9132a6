/- Part of the proof. -/
import Derived.Test.YtpgipjjhapapjaaShLsoB
set_option linter.unusedVariables false
set_option linter.unusedSimpArgs false
set_option linter.unusedSectionVars false
namespace Go.Sh
structure Fr8 (st s:St)(lab lab':Nat→Option Nat)(pv pv':List (Nat×V×List D)):Prop where
  gr:Gr st s (fun r=> ∃ a,lab a=some r) (fun _=> True)
  lb:∀ a r,lab' a=some r→(∃ c,lab c=some r)∨st.heap.length≤r
  vs:∀ y∈pv',∀ r,foot y.2.1=some r→(∃ x∈pv,foot x.2.1=some r)∨(∃ c,lab c=some r)∨st.heap.length≤r
section
variable {a b c:St}{l l1 l2:Nat→Option Nat}{v v1 v2:List (Nat×V×List D)}{P:V→Prop}
theorem Fr8.refl (a:St)(l:Nat→Option Nat)(v:List (Nat×V×List D)):Fr8 a a l l v v:=⟨.refl _ _ _,fun x r h=> .inl ⟨x,h⟩,fun y hy r h=> .inl ⟨y,hy,h⟩⟩
theorem Fr8.trans (h:Fr8 a b l l1 v v1)(k:Fr8 b c l1 l2 v1 v2):Fr8 a c l l2 v v2:=by
  have hl:=h.gr.len
  refine⟨?_,fun x r e=> ?_,fun y hy r e=> ?_⟩
  · have g1:Gr a b (fun r=> (∃ x,l x=some r)∨a.heap.length≤r) (fun _=> True):=h.gr.mono (fun i _ e=> .inl e) fun _ h=> h
    have g2:Gr b c (fun r=> (∃ x,l x=some r)∨a.heap.length≤r) (fun _=> True):=k.gr.mono (fun i _ ⟨x,e⟩=> h.lb x i e) fun _ h=> h
    exact(g1.trans g2).mono (fun i hi e=> e.resolve_right (by omega)) fun _ h=> h
  · rcases k.lb x r e with⟨z,e⟩ | e
    · exact h.lb z r e
    · exact .inr (by omega)
  · rcases k.vs y hy r e with⟨z,hz,e⟩ | ⟨z,e⟩ | e
    · exact h.vs z hz r e
    · rcases h.lb z r e with e | e
      · exact .inr (.inl e)
      · exact .inr (.inr e)
    · exact .inr (.inr (by omega))
theorem Fr8.app {x:Nat}{j:Option Nat}(g:Gr a b (fun r=> l x=some r) P)(n:NewOr a b (l x) j):Fr8 a b l (upd l x j) v v:=by
  refine⟨g.mono (fun _ _ e=> ⟨x,e⟩) fun _ _=> trivial,fun z r e=> ?_,fun y hy r h=> .inl ⟨y,hy,h⟩⟩
  by_cases hz:z=x
  · subst hz
    rw[upd_eq]at e
    rcases n with n | ⟨i,n,n1,_⟩
    · exact .inl ⟨z,by rw[← n];exact e⟩
    · rw[n]at e
      obtain rfl:=Option.some.inj e
      exact .inr n1
  · rw[upd_ne hz]at e
    exact .inl ⟨z,e⟩
theorem Fr8.at (g:Gr a b (fun r=> ∃ x,l x=some r) P):Fr8 a b l l v v:=⟨g.mono (fun _ _ e=> e) fun _ _=> trivial,fun x r h=> .inl ⟨x,h⟩,fun y hy r h=> .inl ⟨y,hy,h⟩⟩
theorem Fr8.push (x:Blk):Fr8 a (a.push x) l l v v:= .at (P:=fun _=> True) (.push _)
theorem Fr8.done {x z:Nat}{u:V}{L:List D}(hu:∀ r,foot u=some r→l x=some r):Fr8 a a l (upd l x none) v ((z,u,L)::v):=by
  refine⟨.refl _ _ _,fun y r e=> ?_,fun y hy r e=> ?_⟩
  · by_cases hy:y=x
    · subst hy;rw[upd_eq]at e;cases e
    · rw[upd_ne hy]at e;exact .inl ⟨y,e⟩
  · rcases List.mem_cons.1 hy with rfl | hy
    · exact .inr (.inl ⟨x,hu r e⟩)
    · exact .inl ⟨y,hy,e⟩
end
section
variable {pr:Prog}(hp:Sub so8Fns pr){st:St}{p:Nat}{lab:Nat→Option Nat}{fs:Fs}{pv:List (Nat×V×List D)}{al:List (Nat×List V)}
include hp
theorem callW_keep8 {c t bd F W K N x:V}{kv wv:List V}{n:Nat}{L:List Nm}(h:Hq st p [c,t,bd,F,W,K,N] lab fs pv al)(h4:fs 4=some (1,n,K,kv))(h5:fs 5=some (1,n,N,wv))(hx:Lst st 1 x (flD sC L))(hl:L.length≤1099511627776)(hxf:∀ r,foot x=some r→lab 0≠some r∧lab 4≠some r)(hn:n≤1099511627776){Q:V→St→Prop}
    (hQ:∀ s K' N' lab' fs',Hq s p [c,t,bd,F,W,K',N'] lab' fs' pv al→fs' 4=some (1,n+1,K',kv++ [x])→fs' 5=some (1,n+1,N',wv++ [cpS L])→ElsQ lab lab' fs fs' (fun e=> e=4∨e=5)→Fr8 st s lab lab' pv pv→Q (.tup []) s):CallW pr 399 [.ptr p 0,x] st Q:=by
  refine .run wSo (hp.at 5 rfl) rfl ?_
  rw[start_raw _ rfl]
  refine codeC_of ?_
  have hrow:=h.row
  have ox:=hx.one
  have hrp:=(h.push (.row [x])).row
  simp[F399,wSo,hrow,fillV,reps,lay,ofDs,ox]
  refine(h.push _).app (a:=4) (by omega) h4 (vwV_lit st x) (by simp) rfl (by omega) (by omega) ?_
  intro s1 K' j1 k1 g1 n1
  have hrow1:=k1.row
  have hset1:∀ cs,s1.setBlk p (.row cs)=some (s1.put p cs):=fun cs=> setBlk_put k1.fl
  have oK:=k1.one (a:=4) updF_eq
  obtain⟨k2,g2⟩:=k1.put (R':= [c,t,bd,F,W,K',N]) rfl
  obtain⟨s2,hs2⟩:∃ s2,s2=s1.put p [c,t,bd,F,W,K',N]:=⟨_,rfl⟩
  rw[← hs2]at k2 g2
  have F1:Fr8 st s2 lab (upd lab 4 j1) pv pv:=(Fr8.push _).trans ((Fr8.app g1 n1).trans (.at (g2.mono (fun r _ e=> ⟨0,by rw[upd_ne (by omega),e];exact h.p0⟩) fun _ h=> h)))
  have hx2:Lst s2 1 x (flD sC L):=by
    refine hx.row fun j hj=> ?_
    have hlt:=hx.lt hj
    obtain⟨q1,q2⟩:=hxf j hj
    have e1:s1.row j=st.row j:=by
      rw[g1.keep j (by simp;omega) (fun e=> q2 e),row_old hlt]
    rw[hs2,row_put_ne fun e=> q1 (by rw[e];exact h.p0),e1]
  simp[hrow1,hset1,oK,lay,← hs2]
  have hrow2:=k2.row
  refine drawn3 9 [0,1,2,3,4,5] [6,7,8] [] (by decide) ?_
  simp[picks,hrow2]
  refine(callW_cpX hp hx2 hl).mono ?_
  rintro r s' ⟨rfl,hr⟩
  have oc:r.ok1=true∧r.cs= [r]:=by rw[hr];exact⟨rfl,rfl⟩
  have hrp2:=(k2.push (.row [r])).row
  simp[hrow2,fillV,reps,lay,ofDs,oc,hrp2]
  refine(k2.push _).app (a:=5) (by omega) (by rw[updF_ne (by omega)];exact h5) (vwV_lit s2 r) (by simp) rfl (by omega) (by omega) ?_
  intro s3 N' j3 k3 g3 n3
  have hrow3:=k3.row
  have hset3:∀ cs,s3.setBlk p (.row cs)=some (s3.put p cs):=fun cs=> setBlk_put k3.fl
  have oN:=k3.one (a:=5) updF_eq
  obtain⟨k4,g4⟩:=k3.put (R':= [c,t,bd,F,W,K',N']) rfl
  obtain⟨s4,hs4⟩:∃ s4,s4=s3.put p [c,t,bd,F,W,K',N']:=⟨_,rfl⟩
  rw[← hs4]at k4 g4
  have F2:Fr8 s2 s4 (upd lab 4 j1) (upd (upd lab 4 j1) 5 j3) pv pv:=(Fr8.push _).trans ((Fr8.app g3 n3).trans (.at (g4.mono (fun r _ e=> ⟨0,by rw[upd_ne (by omega),upd_ne (by omega),e];exact h.p0⟩) fun _ h=> h)))
  simp[hrow3,hset3,oN,lay,← hs4,FinW]
  subst hr
  refine hQ s4 K' N' _ _ k4 ?_ ?_ ((ElsQ.upd.mono fun e he=> .inl he).trans (ElsQ.upd.mono fun e he=> .inr he)) (F1.trans F2)
  · rw[updF_ne (by omega),updF_eq]
  · rw[updF_eq]
end
end Go.Sh
