/- All opcodes, in a row (isa.Ops). -/
import Derived.Test.YtnemobbnlacmjaaDoorShLnuL
set_option linter.unusedVariables false
set_option linter.unusedSimpArgs false
namespace Go.Sh
/-- The opcodes below n that have a form. -/
def opsV (n : Nat) : List Int := ((List.range n).filter fun op => match clsAt op with
  | some c => decide (c.form ≠ 0)
  | none => false).map fun k : Nat => (k : Int)
theorem opsV_len (n : Nat) : (opsV n).length ≤ n := by
  unfold opsV
  rw [List.length_map]
  exact Nat.le_trans (List.length_filter_le _ _) (by simp)
section
variable {pr : Prog} (hI : IsaOk pr) (hp : Sub rowNFns pr) {st : St}
include hI hp
set_option maxRecDepth 8000 in
theorem callW_OpsR (hf : st.floor = 0) : CallW pr 238 [] st fun v s => NewL st s v (opsV 256) := by
  generalize hW : opsV 256 = W
  obtain ⟨N, hN⟩ : ∃ N : Nat, N = 256 := ⟨_, rfl⟩
  rw [← hN] at hW
  refine .run (fun _ => false) (hp.at 2 rfl) rfl ?_
  rw [start_raw _ rfl]
  refine codeC_of ?_
  simp [F238_isa_Ops_row]
  refine loopW_j (fun _ => false) (fun n' e s => ∃ k w, k ≤ N ∧ n' + k = N ∧ e = [(1, w), (3, .d (.i .i64 (k : Int)))] ∧ NewL st s w (opsV k)) ?_ (n := N) ⟨0, .d (.sl 0 false []), by omega, by omega, by simp, NewL.nil st⟩
  rintro n' e s ⟨k, w, hk, hnk, rfl, h1⟩
  by_cases hlt : k < N
  · have c1 : (k : Int) < 256 := by omega
    have c2 : k < 256 := by omega
    have w1 : IntKind.wrap .i64 ((k : Int) + 1) = (k : Int) + 1 := wrap_i64 (by omega) (by omega)
    obtain ⟨c, hc, hcl, hform, _⟩ := cls_facts hI k (by omega)
    by_cases h0 : c.form = 0
    · have he : opsV (k + 1) = opsV k := by simp [opsV, List.range_succ, List.filter_append, hcl, h0]
      simp [F238_isa_Ops_row_b0, c1, c2, hform, h0, w1]
      exact ⟨n' - 1, by omega, k + 1, by omega, by omega, w, ⟨rfl, rfl⟩, by rw [he]; exact h1⟩
    · have he : opsV (k + 1) = opsV k ++ [(k : Int)] := by simp [opsV, List.range_succ, List.filter_append, hcl, h0]
      simp [F238_isa_Ops_row_b0, c1, c2, hform, h0, fillV, reps, lay, ofDs]
      refine h1.app hf (by have := opsV_len k; omega) (k : Int) ?_
      intro s' v' h2
      simp [w1]
      exact ⟨n' - 1, by omega, k + 1, by omega, by omega, v', ⟨rfl, rfl⟩, by rw [he]; exact h2⟩
  · have hkN : k = N := by omega
    have c1 : ¬ (k : Int) < 256 := by omega
    have c2 : ¬ k < 256 := by omega
    simp [F238_isa_Ops_row_b0, FinW, c1, c2]
    rw [← hW, ← hkN]
    exact h1
end
end Go.Sh
