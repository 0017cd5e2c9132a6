/- Part of the proof. -/
import Derived.Test.YtpgipjjhapapjaaShLstrsI
set_option linter.unusedVariables false
set_option linter.unusedSimpArgs false
namespace Go.Sh
def allFns:List (Nat×SFn):= [(163,F163),(157,F157),(155,F155),(156,F156),(158,F158),(166,F166),(173,F173)]
theorem namOfAll {pr:Prog}(h:Sub allFns pr):Sub namFns pr:=by
  intro x hx
  simp only[namFns,List.mem_cons,List.not_mem_nil,or_false]at hx
  rcases hx with rfl | rfl
  · exact h.at 5 rfl
  · exact h.at 6 rfl
def actV (w k:Int)(s:List UInt8)(x:Int):V:= .agg [.d (.i .i64 w),.d (.i .i64 k),.d (.s s),.d (.i .i64 x)]
structure Dsk (st:St)(d p m tn tp:Nat)(live:Bool)(ns:List Nm):Prop where
  fl:st.floor=0
  tf:st.tfloor=0
  row:∃ nz,st.row d=some [if live then .ptr p 0 else .d .np,.d (.sl ns.length nz (ns.map .s))]∧(nz=false→ns= [])
  tab:live=true→Tbl st p m tn tp ns∧d≠p
def DR (d p m:Nat)(live:Bool):Nat→Prop:=fun i=> i=d∨(live=true∧(i=p∨i=m))
def DT (tn tp:Nat)(live:Bool)(ns:List Nm):Nat→Prop:=fun t=> live=true∧ns≠ []∧(t=tn∨t=tp)
theorem Dsk.rlt {st:St}{d p m tn tp:Nat}{live:Bool}{ns:List Nm}(h:Dsk st d p m tn tp live ns){i:Nat}(hi:DR d p m live i):i < st.heap.length:=by
  obtain⟨nz,hr,_⟩:=h.row
  rcases hi with rfl | ⟨hl,rfl | rfl⟩
  · exact row_lt hr
  · exact(h.tab hl).1.plt
  · exact map_lt (h.tab hl).1.map
theorem Dsk.keep {st st':St}{d p m tn tp:Nat}{live:Bool}{ns:List Nm}{R T:Nat→Prop}(h:Dsk st d p m tn tp live ns)(k:Kp st st' R T)(hR:∀ i,DR d p m live i→¬ R i)(hT:∀ t,DT tn tp live ns t→¬ T t):Dsk st' d p m tn tp live ns:=by
  obtain⟨nz,hr,hn⟩:=h.row
  refine⟨k.floor.trans h.fl,k.tfloor.trans h.tf,⟨nz,(row_of_heap (k.heap d (row_lt hr) (hR d (.inl rfl)))).trans hr,hn⟩,fun hl=> ⟨?_,(h.tab hl).2⟩⟩
  exact(h.tab hl).1.keep k (hR p (.inr ⟨hl,.inl rfl⟩)) (hR m (.inr ⟨hl,.inr rfl⟩)) fun hne=> ⟨hT tn ⟨hl,hne,.inl rfl⟩,hT tp ⟨hl,hne,.inr rfl⟩⟩
structure ActP (st st':St)(d p m tn tp tn' tp':Nat)(live:Bool)(ns ns':List Nm):Prop where
  dsk:Dsk st' d p m tn' tp' live ns'
  kp:Kp st st' (DR d p m live) (DT tn tp live ns)
  tok:∀ t,DT tn' tp' live ns' t→DT tn tp live ns t∨st.tips.length≤t
  small:endAt 1 ns'≤endAt 1 ns+65
section
variable {pr:Prog}(hp:Sub strsFns pr)(hq:SubP strsPrims pr)(hl:Sub law8Fns pr)(hr:Sub ref8Fns pr)(ha:Sub allFns pr){st:St}
include hp ha
theorem den_nothing {d:Nat}{R:V}(hrow:st.row d=some [.d .np,R])(w k:Int)(s:List UInt8)(x:Int):den pr 163 [.ptr d 0,actV w k s x] st=some (.d (.b true),st):=by
  have h1:=fun st=> den_Add_nil hp (st:=st) s
  have h2:=fun st=> den_At_nil hp (st:=st) x
  have h3:=fun st=> den_Names_nil (namOfAll ha) (st:=st)
  have h4:=fun st=> den_Bytes_nil hp (st:=st)
  rw[den_fn (ha.at 0 rfl) rfl rfl]
  obtain⟨s1,hs1⟩:∃ s1,s1=({st with floor:=st.heap.length,tfloor:=st.tips.length}:St):=⟨_,rfl⟩
  have hst:start F163 st=s1:=by rw[hs1];rfl
  rw[hst]
  have hlen:s1.heap.length=st.heap.length:=by rw[hs1]
  have hrow1:(s1.push (.row [.d (.i .i64 w),.d (.i .i64 k),.d (.s s),.d (.i .i64 x)])).row d=some [.d .np,R]:=by
    rw[row_old (by rw[hlen];exact row_lt hrow),hs1]
    exact hrow
  have hbox:(s1.push (.row [.d (.i .i64 w),.d (.i .i64 k),.d (.s s),.d (.i .i64 x)])).row s1.heap.length=some [.d (.i .i64 w),.d (.i .i64 k),.d (.s s),.d (.i .i64 x)]:=row_push_new rfl
  by_cases k1:k=1
  · simp[F163,actV,hbox,k1]at hbox hrow1 ⊢
    simp[hbox,hrow1,h1,k1]
  by_cases k2:k=2
  · simp[F163,actV,hbox,k2]at hbox hrow1 ⊢
    simp[hbox,hrow1,h2,k2]
  by_cases k3:k=3
  · simp[F163,actV,hbox,k3]at hbox hrow1 ⊢
    simp[hbox,hrow1,h3,k3]
  by_cases k4:k=4
  · simp[F163,actV,hbox,k4]at hbox hrow1 ⊢
    simp[hbox,hrow1,h4,k4]
  simp[F163,actV,hbox,k1,k2,k3,k4]
include hq hl hr
end
end Go.Sh
