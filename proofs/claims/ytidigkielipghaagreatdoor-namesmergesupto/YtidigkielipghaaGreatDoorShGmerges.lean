/- Part of the proof. -/
import Derived.Test.YtidigkielipghaaGreatDoorCards
import Derived.Test.YtidigkielipghaaGreatDoorTie
import Derived.WalkKit
import Derived.ProofKit
import Derived.Deep.DeepHandedRow
import Derived.Lib.LaidTab
import Derived.Test.YtidigkielipghaaGreatDoorShTmerges
import Derived.Test.YtidigkielipghaaGreatDoorShBe
set_option linter.unusedVariables false
namespace Go.Proofs.YtidigkielipghaaGreatDoor.merges
open Go.Sh Go.ChangeAt
theorem laid_tail {P:Program}{x:String×DataW Unit}{rest:List (String×DataW Unit)}{W:World}(h:laidMet P (x::rest) W):laidMet P rest W:=by
  obtain⟨n,d⟩:=x
  obtain⟨ps,⟨g,t,cs,fuel,p,q,hg,ht,hv,hd,hr,rfl⟩,hn,hc⟩:=h
  exact⟨q,hr,(List.nodup_append.1 hn).2.1,fun b off hm=> hc b off (by simp[hm])⟩
theorem repL_tab {L:Link}{W:World}{name:String}{zs:List Int}{g:Nat}(hg:Tryz.prog.globalNamed name=some g)(h:Lib.TabIs Tryz.prog W name .i64 zs):RepL L (K.at0 L W).imm (zs.map fun n:Int=> .i .i64 n) g 0:=by
  refine RepL.of fun j c hj=> ?_
  rw[List.getElem?_map]at hj
  obtain⟨z,hz,rfl⟩:=Option.map_eq_some_iff.1 hj
  have hlt:=(List.getElem?_eq_some_iff.1 hz).1
  refine⟨.int .i64 z,⟨?_,fun h=> h⟩,by simp only[RepD]⟩
  have:=h.cell hg j hlt
  show W.cell? ⟨g,0+j,none⟩=_
  rw[Nat.zero_add,this]
  simp[List.getD,hz]
def laidL:List (String×DataW Unit):=Rows.namesMergesRow.laid
theorem globs {W:World}(h:laidMetH Tryz.prog laidL W):Globs pr link W:=by
  have h:laidMet Tryz.prog Rows.namesMergesRow.laid W:=h
  have t2:Lib.TabIs Tryz.prog W "spindle/isa.arithmetic" .i64 [0,16,32,48,64,80,96,112,144,160,176,192]:=Lib.tabIs_of_head (g:=3) (by kernel_rfl) (by kernel_rfl) (t:=153) Tryz.underlying153 Tryz.underlying3 (by kernel_rfl) (by kernel_rfl) h
  have h:=laid_tail h
  have t3:Lib.TabIs Tryz.prog W "spindle/isa.compares" .i64 [16,32,48,64,80,96,112,160,176,192,208]:=Lib.tabIs_of_head (g:=4) (by kernel_rfl) (by kernel_rfl) (t:=154) Tryz.underlying154 Tryz.underlying3 (by kernel_rfl) (by kernel_rfl) h
  have h:=laid_tail h
  have t0:Lib.TabIs Tryz.prog W "spindle/isa.loads" .i64 [113,105,97,121,145,137,129]:=Lib.tabIs_of_head (g:=1) (by kernel_rfl) (by kernel_rfl) (t:=151) Tryz.underlying151 Tryz.underlying3 (by kernel_rfl) (by kernel_rfl) h
  have h:=laid_tail h
  have t1:Lib.TabIs Tryz.prog W "spindle/isa.stores" .i64 [114,106,98,122,115,107,99,123]:=Lib.tabIs_of_head (g:=2) (by kernel_rfl) (by kernel_rfl) (t:=152) Tryz.underlying152 Tryz.underlying3 (by kernel_rfl) (by kernel_rfl) h
  have h:=laid_tail h
  have t4:Lib.TabIs Tryz.prog W "spindle/isa.atomics" .i64 [0,64,80,160,1,65,81,161,225,241]:=Lib.tabIs_of_head (g:=0) (by kernel_rfl) (by kernel_rfl) (t:=142) Tryz.underlying142 Tryz.underlying3 (by kernel_rfl) (by kernel_rfl) h
  refine⟨fun name cells hc=> ?_,fun _ _=> trivial⟩
  have hc:tabs name=some cells:=hc
  unfold tabs at hc
  split at hc
  · obtain rfl:=Option.some.inj hc
    exact repL_tab (by kernel_rfl) t0
  · obtain rfl:=Option.some.inj hc
    exact repL_tab (by kernel_rfl) t1
  · obtain rfl:=Option.some.inj hc
    exact repL_tab (by kernel_rfl) t2
  · obtain rfl:=Option.some.inj hc
    exact repL_tab (by kernel_rfl) t3
  · obtain rfl:=Option.some.inj hc
    exact repL_tab (by kernel_rfl) t4
  · cases hc
theorem own:ownKnob Tryz.prog.godebug=none:=by kernel_rfl
theorem laidOut:laidOutB Tryz.prog=true:=by kernel_rfl
def lay1 (h:Array Obj)(i:Nat)(zs:List Int):Array Obj:=h.modify i fun
  | .cells _ t frozen=> .cells (zs.map fun n:Int=> Value.int .i64 n).toArray t frozen
  | o=> o
noncomputable def laidWorld (os:Os):World:=
  {World.holding Tryz.prog os ⟨#[],#[],[]⟩ with heap:=lay1 (lay1 (lay1 (lay1 (lay1 ((World.holding Tryz.prog os ⟨#[],#[],[]⟩).heap) 3 [0,16,32,48,64,80,96,112,144,160,176,192]) 4 [16,32,48,64,80,96,112,160,176,192,208]) 1 [113,105,97,121,145,137,129]) 2 [114,106,98,122,115,107,99,123]) 0 [0,64,80,160,1,65,81,161,225,241]}
/-! ### The bound of the second form -/
mutual
theorem upto_1 {H:Type}:∀ d:DataW H,Rows.uptoBulk d=bulkW d
  | .lit (.string _)=> rfl
  | .lit (.bool _)=> rfl
  | .lit (.int _ _)=> rfl
  | .lit (.float _ _)=> rfl
  | .lit .nil=> rfl
  | .nil=> rfl
  | .ptr d=> by simp only[Rows.uptoBulk,bulkW,upto_1 d]
  | .slice a b=> by simp only[Rows.uptoBulk,bulkW,upto_s a,upto_s b]
  | .agg a=> by simp only[Rows.uptoBulk,bulkW,upto_s a]
  | .iface _ d=> by simp only[Rows.uptoBulk,bulkW,upto_1 d]
  | .map e=> by simp only[Rows.uptoBulk,bulkW,upto_e e]
  | .held _=> rfl
theorem upto_s {H:Type}:∀ l:List (DataW H),Rows.uptoBulkAll l=bulkWs l
  | []=> rfl
  | d::r=> by simp only[Rows.uptoBulkAll,bulkWs,upto_1 d,upto_s r]
theorem upto_e {H:Type}:∀ l:List (Lit×DataW H),Rows.uptoBulkEntries l=bulkWe l
  | []=> rfl
  | x::r=> by simp only[Rows.uptoBulkEntries,bulkWe,upto_x x,upto_e r]
theorem upto_x {H:Type}:∀ x:Lit×DataW H,Rows.uptoBulkEntry x=bulkWx x
  | (.string _,d)=> by simp only[Rows.uptoBulkEntry,bulkWx,upto_1 d]
  | (.bool _,d)=> by simp only[Rows.uptoBulkEntry,bulkWx,upto_1 d]
  | (.int _ _,d)=> by simp only[Rows.uptoBulkEntry,bulkWx,upto_1 d]
  | (.float _ _,d)=> by simp only[Rows.uptoBulkEntry,bulkWx,upto_1 d]
  | (.nil,d)=> by simp only[Rows.uptoBulkEntry,bulkWx,upto_1 d]
end
theorem small {H:Type}{l:List (DataW H)}(h:Rows.uptoSmall H l=true):bulkWs l≤1048576:=by
  have:Rows.uptoBulkAll l≤1048576:=of_decide_eq_true h
  rwa [upto_s]at this
end Go.Proofs.YtidigkielipghaaGreatDoor.merges
