/- Part of the proof. -/
import Derived.Test.YtidigkielipghaaGreatDoorShBe
import Derived.Test.YtidigkielipghaaGreatDoorShBa
import Derived.Test.YtidigkielipghaaGreatDoorShFslices
set_option linter.unusedVariables false
set_option linter.unusedSimpArgs false
namespace Go.Sh
@[simp] theorem row_mk {st:St}{T:List Nat}{f g i:Nat}:(⟨st.heap,T,f,g⟩:St).row i=st.row i:=rfl
@[simp] theorem mapOf_mk {st:St}{T:List Nat}{f g i:Nat}:(⟨st.heap,T,f,g⟩:St).mapOf i=st.mapOf i:=rfl
@[simp] theorem map_cs {id:Nat}:V.cs (.map id)= [.map id]:=rfl
@[simp] theorem map_ok1 {id:Nat}:V.ok1 (.map id)=true:=rfl
structure Kp (st st':St)(R T:Nat→Prop):Prop where
  floor:st'.floor=st.floor
  tfloor:st'.tfloor=st.tfloor
  hlen:st.heap.length≤st'.heap.length
  tlen:st.tips.length≤st'.tips.length
  heap:∀ i,i < st.heap.length→¬ R i→st'.heap[i]? =st.heap[i]?
  tips:∀ t,t < st.tips.length→¬ T t→st'.tips[t]? =st.tips[t]?
theorem Kp.trans {a b c:St}{R T:Nat→Prop}(h:Kp a b R T)(k:Kp b c R T):Kp a c R T:=
  ⟨k.floor.trans h.floor,k.tfloor.trans h.tfloor,Nat.le_trans h.hlen k.hlen,Nat.le_trans h.tlen k.tlen,
    fun i hi hn=> (k.heap i (Nat.lt_of_lt_of_le hi h.hlen) hn).trans (h.heap i hi hn),fun t ht hn=> (k.tips t (Nat.lt_of_lt_of_le ht h.tlen) hn).trans (h.tips t ht hn)⟩
theorem Kp.mono {a b:St}{R T R' T':Nat→Prop}(h:Kp a b R T)(hR:∀ i,i < a.heap.length→R i→R' i)(hT:∀ t,t < a.tips.length→T t→T' t):Kp a b R' T':=
  ⟨h.floor,h.tfloor,h.hlen,h.tlen,fun i hi hn=> h.heap i hi fun hr=> hn (hR i hi hr),fun t ht hn=> h.tips t ht fun hr=> hn (hT t ht hr)⟩
theorem row_of_heap {a b:St}{i:Nat}(h:b.heap[i]? =a.heap[i]?):b.row i=a.row i:=by unfold St.row;rw[h]
theorem map_of_heap {a b:St}{i:Nat}(h:b.heap[i]? =a.heap[i]?):b.mapOf i=a.mapOf i:=by unfold St.mapOf;rw[h]
theorem map_lt {st:St}{i:Nat}{es:List (D×V)}(h:st.mapOf i=some es):i < st.heap.length:=by
  unfold St.mapOf at h
  split at h
  · rename_i hc
    exact(List.getElem?_eq_some_iff.1 hc).1
  · cases h
theorem row_map_ne {st:St}{i j:Nat}{cs:List V}{es:List (D×V)}(h:st.row i=some cs)(h':st.mapOf j=some es):i≠j:=by
  rintro rfl
  unfold St.row at h
  unfold St.mapOf at h'
  split at h
  · rename_i hc
    rw[hc]at h'
    simp at h'
  · cases h
def St.putM (st:St)(id:Nat)(es:List (D×V)):St:={st with heap:=st.heap.set id (some (.map es))}
section
variable {st:St}{id j:Nat}{es:List (D×V)}{cs:List V}
theorem setBlk_putM (h:st.floor=0):st.setBlk id (.map es)=some (st.putM id es):=by
  unfold St.setBlk
  rw[if_pos (by omega)]
  rfl
theorem Kp.put {R T:Nat→Prop}(h:R id):Kp st (st.put id cs) R T:=by
  refine⟨rfl,rfl,by simp,Nat.le_refl _,fun i hi hn=> ?_,fun _ _ _=> rfl⟩
  unfold St.put
  simp only[List.getElem?_set]
  rw[if_neg (fun e=> hn (by rw[← e];exact h))]
theorem Kp.putM {R T:Nat→Prop}(h:R id):Kp st (st.putM id es) R T:=by
  refine⟨rfl,rfl,by simp[St.putM],Nat.le_refl _,fun i hi hn=> ?_,fun _ _ _=> rfl⟩
  unfold St.putM
  simp only[List.getElem?_set]
  rw[if_neg (fun e=> hn (by rw[← e];exact h))]
theorem Kp.push {R T:Nat→Prop}(b:Blk):Kp st (st.push b) R T:=by
  refine⟨rfl,rfl,by simp,Nat.le_refl _,fun i hi hn=> ?_,fun _ _ _=> rfl⟩
  simp only[St.push]
  rw[List.getElem?_append_left hi]
theorem mapOf_putM (h:id < st.heap.length):(st.putM id es).mapOf id=some es:=by simp[St.mapOf,St.putM,h]
theorem row_putM (h:j≠id):(st.putM id es).row j=st.row j:=by
  refine row_of_heap ?_
  unfold St.putM
  simp only[List.getElem?_set]
  rw[if_neg (fun e=> h e.symm)]
theorem mapOf_put (h:j≠id):(st.put id cs).mapOf j=st.mapOf j:=by
  refine map_of_heap ?_
  unfold St.put
  simp only[List.getElem?_set]
  rw[if_neg (fun e=> h e.symm)]
theorem mapOf_old {b:Blk}(h:j < st.heap.length):(st.push b).mapOf j=st.mapOf j:=by
  refine map_of_heap ?_
  simp only[St.push]
  rw[List.getElem?_append_left h]
theorem mapOf_push_new:(st.push (.map es)).mapOf st.heap.length=some es:=by simp[St.mapOf,St.push]
end
end Go.Sh
