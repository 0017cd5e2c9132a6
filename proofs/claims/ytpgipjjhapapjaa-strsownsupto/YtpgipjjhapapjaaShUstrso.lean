/- Part of the proof. -/
import Derived.Test.YtpgipjjhapapjaaRows
import Derived.Test.YtpgipjjhapapjaaShBe
set_option linter.unusedVariables false
namespace Go.Proofs.Ytpgipjjhapapjaa.strso
open Go.Sh
/-! ### The bound of the second form -/
mutual
theorem upto_1 {H:Type}:∀ d:DataW H,Rows.uptoBulk d=bulkW d
  | .lit (.string _)=> rfl
  | .lit (.bool _)=> rfl
  | .lit (.int _ _)=> rfl
  | .lit (.float _ _)=> rfl
  | .lit .nil=> rfl
  | .nil=> rfl
  | .ptr d=> by simp only[Rows.uptoBulk,bulkW,upto_1 d]
  | .slice a b=> by simp only[Rows.uptoBulk,bulkW,upto_s a,upto_s b]
  | .agg a=> by simp only[Rows.uptoBulk,bulkW,upto_s a]
  | .iface _ d=> by simp only[Rows.uptoBulk,bulkW,upto_1 d]
  | .map e=> by simp only[Rows.uptoBulk,bulkW,upto_e e]
  | .held _=> rfl
theorem upto_s {H:Type}:∀ l:List (DataW H),Rows.uptoBulkAll l=bulkWs l
  | []=> rfl
  | d::r=> by simp only[Rows.uptoBulkAll,bulkWs,upto_1 d,upto_s r]
theorem upto_e {H:Type}:∀ l:List (Lit×DataW H),Rows.uptoBulkEntries l=bulkWe l
  | []=> rfl
  | x::r=> by simp only[Rows.uptoBulkEntries,bulkWe,upto_x x,upto_e r]
theorem upto_x {H:Type}:∀ x:Lit×DataW H,Rows.uptoBulkEntry x=bulkWx x
  | (.string _,d)=> by simp only[Rows.uptoBulkEntry,bulkWx,upto_1 d]
  | (.bool _,d)=> by simp only[Rows.uptoBulkEntry,bulkWx,upto_1 d]
  | (.int _ _,d)=> by simp only[Rows.uptoBulkEntry,bulkWx,upto_1 d]
  | (.float _ _,d)=> by simp only[Rows.uptoBulkEntry,bulkWx,upto_1 d]
  | (.nil,d)=> by simp only[Rows.uptoBulkEntry,bulkWx,upto_1 d]
end
theorem small {H:Type}{l:List (DataW H)}(h:Rows.uptoSmall H l=true):bulkWs l≤1048576:=by
  have:Rows.uptoBulkAll l≤1048576:=of_decide_eq_true h
  rwa [upto_s]at this
end Go.Proofs.Ytpgipjjhapapjaa.strso
