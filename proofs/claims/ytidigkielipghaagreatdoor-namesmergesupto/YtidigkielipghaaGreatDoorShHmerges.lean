/- Part of the proof. -/
import Derived.Test.YtidigkielipghaaGreatDoorShGmerges
import Derived.Test.YtidigkielipghaaGreatDoorShEisaA
import Derived.Test.YtidigkielipghaaGreatDoorShLnsH
import Derived.Test.YtidigkielipghaaGreatDoorShBe
set_option linter.unusedVariables false
namespace Go.Proofs.YtidigkielipghaaGreatDoor.merges
open Go.Sh
theorem hI:IsaOk pr:=isaOk (by
    intro x hx
    simp only[isaFns,List.mem_cons,List.not_mem_nil,or_false]at hx
    rcases hx with rfl | rfl | rfl | rfl | rfl <;> rfl) (by
    intro x hx
    simp only[evFns,List.mem_cons,List.not_mem_nil,or_false]at hx
    rcases hx with rfl | rfl | rfl | rfl <;> rfl) fun _ _ h=> h
theorem hR:RefOk pr:=refOk (by
    intro x hx
    simp only[refFns,List.mem_cons,List.not_mem_nil,or_false]at hx
    rcases hx with rfl | rfl | rfl | rfl <;> rfl) (by
    intro x hx
    simp only[evFnsR,List.mem_cons,List.not_mem_nil,or_false]at hx
    rcases hx with rfl | rfl | rfl | rfl | rfl <;> rfl)
theorem hp:Sub ngFns pr:=by
  intro x hx
  simp only[ngFns,List.mem_cons,List.not_mem_nil,or_false]at hx
  rcases hx with rfl | rfl | rfl <;> rfl
theorem hq:Sub ncFns pr:=by
  intro x hx
  simp only[ncFns,List.mem_cons,List.not_mem_nil,or_false]at hx
  rcases hx with rfl | rfl | rfl | rfl | rfl | rfl | rfl | rfl | rfl <;> rfl
theorem hns:Sub nsFns pr:=by
  intro x hx
  simp only[nsFns,List.mem_cons,List.not_mem_nil,or_false]at hx
  rcases hx with rfl | rfl | rfl | rfl | rfl <;> rfl
theorem h15:Sub r15Fns pr:=by
  intro x hx
  simp only[r15Fns,List.mem_cons,List.not_mem_nil,or_false]at hx
  rcases hx with rfl | rfl | rfl | rfl | rfl | rfl <;> rfl
theorem hsm:Sub smFns pr:=by
  intro x hx
  simp only[smFns,List.mem_cons,List.not_mem_nil,or_false]at hx
  rcases hx with rfl | rfl | rfl | rfl | rfl | rfl | rfl <;> rfl
theorem hn:Sub nmFns pr:=by
  intro x hx
  simp only[nmFns,List.mem_cons,List.not_mem_nil,or_false]at hx
  rcases hx with rfl | rfl | rfl | rfl | rfl | rfl | rfl | rfl | rfl | rfl <;> rfl
theorem hob:Sub objFns pr:=by
  intro x hx
  simp only[objFns,List.mem_cons,List.not_mem_nil,or_false]at hx
  rcases hx with rfl | rfl | rfl | rfl | rfl | rfl | rfl | rfl | rfl <;> rfl
theorem h12:Sub ref12Fns pr:=by
  intro x hx
  simp only[ref12Fns,List.mem_cons,List.not_mem_nil,or_false]at hx
  rcases hx with rfl | rfl | rfl | rfl | rfl | rfl | rfl | rfl | rfl | rfl <;> rfl
theorem h4:Sub ref4nFns pr:=by
  intro x hx
  simp only[ref4nFns,List.mem_cons,List.not_mem_nil,or_false]at hx
  rcases hx with rfl | rfl | rfl | rfl <;> rfl
theorem h3:Sub ref3sFns pr:=by
  intro x hx
  simp only[ref3sFns,List.mem_cons,List.not_mem_nil,or_false]at hx
  rcases hx with rfl | rfl <;> rfl
theorem hsl:Sub slFns pr:=by
  intro x hx
  simp only[slFns,List.mem_cons,List.not_mem_nil,or_false]at hx
  rcases hx with rfl
  rfl
theorem hf:pr.fn 333=none:=rfl
theorem hg:pr.prim 333=some (pSortedS 345):=rfl
def runs (k:Nat)(o:ObS):Bool:=isShut pr 330 && match runF pr k 330 [.agg o.vs] st0 with
  | some (r,_)=> r.same (.tup [.d (.i .i64 0),.d (.i .i64 0)])
  | none=> false
theorem runs_den {k:Nat}{o:ObS}(h:runs k o=true)(st:St):den pr 330 [.agg o.vs] st=some (.tup [.d (.i .i64 0),.d (.i .i64 0)],st):=by
  unfold runs at h
  simp only[Bool.and_eq_true]at h
  obtain⟨hs,h⟩:=h
  split at h
  · rename_i v s' hr
    rw[den_iff]
    rw[V.same_eq h]at hr
    exact⟨k,runF_shut k _ _ _ _ _ _ hs hr⟩
  · cases h
theorem runA:runs 100 (oneO [102] true true [[103]])=true:=by kernel_rfl
theorem runB:runs 100 (oneO [103] true false [])=true:=by kernel_rfl
theorem runC:runs 100 (oneO [102] true false [])=true:=by kernel_rfl
theorem hA:AwkOk pr:=⟨runs_den runA,runs_den runB,runs_den runC⟩
/-! ### Objects as arguments -/
def fnTy:Ty:= .agg [.str,.bool,.int .i64,.int .i64]
def tbTy:Ty:= .agg [.str,.int .i64,.int .i64,.int .i64,.int .i64]
def rlTy:Ty:= .agg [.int .i64,.int .i64,.int .i64]
def obTy:Ty:= .agg [.sl 40 insTy,.sl 40 fnTy,.sl 48 tbTy,.sl 16 .str,.sl 24 rlTy]
theorem fns_of:∀ {els:List (List D)},(∀ x∈els,Has fnTy x)→∃ is:List FnS,els=is.map FnS.cells∧∀ x∈is,x.nm.length≤140737488351232
  | [],_=> ⟨[],rfl,fun _ h=> by cases h⟩
  | x::els,h=> by
    have hx:=h x List.mem_cons_self
    simp only[fnTy,Has,Hass]at hx
    obtain⟨_,_,rfl,⟨a,rfl,ha⟩,_,_,rfl,⟨b,rfl⟩,_,_,rfl,⟨c,rfl,_⟩,_,_,rfl,⟨d,rfl,_⟩,rfl⟩:=hx
    obtain⟨is,rfl,his⟩:=fns_of fun z hz=> h z (List.mem_cons_of_mem _ hz)
    refine⟨⟨a,b,c,d⟩::is,rfl,fun z hz=> ?_⟩
    rcases List.mem_cons.1 hz with rfl | hz
    · exact ha
    · exact his z hz
theorem tbs_of:∀ {els:List (List D)},(∀ x∈els,Has tbTy x)→∃ is:List TbS,els=is.map TbS.cells∧∀ x∈is,x.nm.length≤140737488351232
  | [],_=> ⟨[],rfl,fun _ h=> by cases h⟩
  | x::els,h=> by
    have hx:=h x List.mem_cons_self
    simp only[tbTy,Has,Hass]at hx
    obtain⟨_,_,rfl,⟨a,rfl,ha⟩,_,_,rfl,⟨b,rfl,_⟩,_,_,rfl,⟨c,rfl,_⟩,_,_,rfl,⟨d,rfl,_⟩,_,_,rfl,⟨e,rfl,_⟩,rfl⟩:=hx
    obtain⟨is,rfl,his⟩:=tbs_of fun z hz=> h z (List.mem_cons_of_mem _ hz)
    refine⟨⟨a,b,c,d,e⟩::is,rfl,fun z hz=> ?_⟩
    rcases List.mem_cons.1 hz with rfl | hz
    · exact ha
    · exact his z hz
theorem rls_of:∀ {els:List (List D)},(∀ x∈els,Has rlTy x)→∃ is:List RlS,els=is.map RlS.cells
  | [],_=> ⟨[],rfl⟩
  | x::els,h=> by
    have hx:=h x List.mem_cons_self
    simp only[rlTy,Has,Hass]at hx
    obtain⟨_,_,rfl,⟨a,rfl,_⟩,_,_,rfl,⟨b,rfl,_⟩,_,_,rfl,⟨c,rfl,_⟩,rfl⟩:=hx
    obtain⟨is,rfl⟩:=rls_of fun z hz=> h z (List.mem_cons_of_mem _ hz)
    exact⟨⟨a,b,c⟩::is,rfl⟩
theorem txs_of:∀ {els:List (List D)},(∀ x∈els,Has .str x)→∃ is:List Byt8,els=is.map txC∧∀ x∈is,x.length≤140737488351232
  | [],_=> ⟨[],rfl,fun _ h=> by cases h⟩
  | x::els,h=> by
    have hx:=h x List.mem_cons_self
    simp only[Has]at hx
    obtain⟨a,rfl,ha⟩:=hx
    obtain⟨is,rfl,his⟩:=txs_of fun z hz=> h z (List.mem_cons_of_mem _ hz)
    refine⟨a::is,rfl,fun z hz=> ?_⟩
    rcases List.mem_cons.1 hz with rfl | hz
    · exact ha
    · exact his z hz
def ObS.inn (o:ObS):Prop:=o.ok∧∀ s∈namesO o,s.length≤9223372036854775807
theorem ob_of {el:List D}(h:Has obTy el):∃ o:ObS,el=o.cells∧ObS.inn o:=by
  simp only[obTy,Has,Hass]at h
  obtain⟨_,_,rfl,⟨e1,z1,rfl,l1,_,h1⟩,_,_,rfl,⟨e2,z2,rfl,l2,_,h2⟩,_,_,rfl,⟨e3,z3,rfl,l3,_,h3⟩,_,_,rfl,⟨e4,z4,rfl,l4,_,h4⟩,_,_,rfl,⟨e5,z5,rfl,l5,_,h5⟩,rfl⟩:=h
  obtain⟨t1,rfl,_⟩:=inss_of h1
  obtain⟨t2,rfl,n2⟩:=fns_of h2
  obtain⟨t3,rfl,n3⟩:=tbs_of h3
  obtain⟨t4,rfl,n4⟩:=txs_of h4
  obtain⟨t5,rfl⟩:=rls_of h5
  rw[List.length_map]at l1 l2 l3 l4 l5
  refine⟨⟨t1,t2,t3,t4,t5,z1,z2,z3,z4,z5⟩,?_,⟨by show t1.length * 40≤_;omega,by show t2.length * 40≤_;omega,by show t3.length * 48≤_;omega,by show t4.length * 16≤_;omega,by show t5.length * 24≤_;omega⟩,fun s hs=> ?_⟩
  · simp only[ObS.cells,List.length_map]
    rfl
  · simp only[namesO,List.mem_append,List.mem_map]at hs
    rcases hs with(⟨f,hf,rfl⟩ | ⟨t,ht,rfl⟩) | hs
    · have:=n2 f hf
      omega
    · have:=n3 t ht
      omega
    · have:=n4 s hs
      omega
theorem obs_of:∀ {els:List (List D)},(∀ x∈els,Has obTy x)→∃ os:List ObS,els=os.map ObS.cells∧∀ x∈os,ObS.inn x
  | [],_=> ⟨[],rfl,fun _ h=> by cases h⟩
  | x::els,h=> by
    obtain⟨y,rfl,hy⟩:=ob_of (h x List.mem_cons_self)
    obtain⟨is,rfl,his⟩:=obs_of fun z hz=> h z (List.mem_cons_of_mem _ hz)
    refine⟨y::is,rfl,fun z hz=> ?_⟩
    rcases List.mem_cons.1 hz with rfl | hz
    · exact hy
    · exact his z hz
theorem osl_of:∀ {els:List (List D)},(∀ x∈els,Has (.sl 120 obTy) x)→∃ ls:List OsL,els=ls.map OsL.cells∧∀ x∈ls,x.os.length * 120≤140737488351232∧∀ o∈x.os,ObS.inn o
  | [],_=> ⟨[],rfl,fun _ h=> by cases h⟩
  | x::els,h=> by
    have hx:=h x List.mem_cons_self
    simp only[Has]at hx
    obtain⟨es,nz,rfl,hb,_,hel⟩:=hx
    obtain⟨os,rfl,ho⟩:=obs_of hel
    obtain⟨is,rfl,his⟩:=osl_of fun z hz=> h z (List.mem_cons_of_mem _ hz)
    refine⟨⟨nz,os⟩::is,?_,fun z hz=> ?_⟩
    · rw[List.map_cons,List.length_map]
      rfl
    · rcases List.mem_cons.1 hz with rfl | hz
      · rw[List.length_map]at hb
        exact⟨hb,ho⟩
      · exact his z hz
end Go.Proofs.YtidigkielipghaaGreatDoor.merges
