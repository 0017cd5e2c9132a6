/- What is written, in a row (isa.Writes). -/
import Derived.Test.YtnemobbnlacmjaaDoorShLnuK
set_option linter.unusedVariables false
set_option linter.unusedSimpArgs false
namespace Go.Sh
section
variable {pr : Prog} (hI : IsaOk pr) (hp : Sub rowNFns pr) {st : St}
include hI hp
theorem callW_WritesR_no (hf : st.floor = 0) {x : Ins} (h : mayV x ≠ 0) : CallW pr 236 [.agg (ofDs x.cells)] st fun v s => NewL st s v [] := by
  refine .run (fun f => f == 239) (hp.at 0 rfl) rfl ?_
  rw [start_raw _ rfl]
  refine codeC_of ?_
  have hm : ∀ st, den pr 27 [.agg [.d (.i .i64 x.op), .d (.i .i64 x.dst), .d (.i .i64 x.src), .d (.i .i64 x.off), .d (.i .i64 x.imm)]] st = some (.d (.i .i64 (mayV x)), st) := fun st => den_may hI (st := st) x
  simp [F236_isa_Writes_row, Ins.cells, ofDs, hm, h, FinW]
  exact (NewL.nil _).pre (.push _)
theorem callW_WritesR (hf : st.floor = 0) {x : Ins} {op : Nat} {c : OpC} (h : MayAt x op c) (h0 : mayV x = 0) : CallW pr 236 [.agg (ofDs x.cells)] st fun v s => NewL st s v (writesV c.form x) := by
  refine .run (fun f => f == 239) (hp.at 0 rfl) rfl ?_
  rw [start_raw _ rfl]
  refine codeC_of ?_
  have hm := fun st => den_may hI (st := st) x
  obtain ⟨c', hc', hcl, hform, hinfo, _⟩ := cls_facts hI op h.lt
  obtain rfl : c = c' := Option.some.inj (h.cls.symm.trans hcl)
  have hat := imm_atom h
  obtain ⟨iop, dst, src, off, imm⟩ := x
  have hop : iop = op := h.opv
  subst hop
  simp only at hat
  simp only [Ins.cells, ofDs, List.map_cons, List.map_nil, h0] at hm
  generalize c.form = f at *
  have fin : ∀ (blk : Blk) (z : Int), NewL st ((st.push blk).push (.row [.d (.i .i64 z)])) (.rsl 1 (st.heap.length + 1) 0 1 1) [z] := fun blk z => by
    have := (NewL.lit (st.push blk) z).pre (s0 := st) (.push _)
    simpa using this
  by_cases f3 : f = 3
  · simp [F236_isa_Writes_row, Ins.cells, ofDs, hm, hform, f3, writesV, reps, fillV, lay, FinW]
    exact fin _ _
  by_cases f2 : f = 2
  · simp [F236_isa_Writes_row, Ins.cells, ofDs, hm, hform, f2, writesV, reps, fillV, lay, FinW]
    exact fin _ _
  by_cases f4 : f = 4
  · simp [F236_isa_Writes_row, Ins.cells, ofDs, hm, hform, f4, writesV, reps, fillV, lay, FinW]
    exact fin _ _
  by_cases f10 : f = 10
  · simp [F236_isa_Writes_row, Ins.cells, ofDs, hm, hform, f10, writesV, reps, fillV, lay, FinW]
    exact fin _ _
  by_cases f6 : f = 6
  · have hb : bitI .and .i64 imm 1 = some (.i .i64 (imm % 2)) := by
      have hr : ∀ i ∈ atomsL, 0 ≤ i ∧ i ≤ 241 := by decide
      obtain ⟨r0, r1⟩ := hr imm (hat f6)
      obtain ⟨n, rfl⟩ : ∃ n : Nat, imm = n := ⟨imm.toNat, by omega⟩
      have := and_nat .i64 n 1 (by simp [IntKind.bits]; omega) (by simp [IntKind.bits])
      rw [Nat.and_one_is_mod, wrap_i64 (by omega) (by omega)] at this
      simpa using this
    by_cases i241 : imm = 241
    · have i241 : (imm = 241) = True := eq_true i241
      simp [F236_isa_Writes_row, Ins.cells, ofDs, hm, hform, f6, writesV, reps, fillV, lay, i241, FinW]
      exact fin _ _
    by_cases i2 : imm % 2 = 1
    · simp [F236_isa_Writes_row, Ins.cells, ofDs, hm, hform, f6, writesV, reps, fillV, lay, i241, hb, i2, FinW]
      exact fin _ _
    · have i2' : imm % 2 = 0 := by omega
      simp [F236_isa_Writes_row, Ins.cells, ofDs, hm, hform, f6, writesV, reps, fillV, lay, i241, hb, i2', FinW]
      exact (NewL.nil _).pre (.push _)
  by_cases f9 : f = 9
  · simp [F236_isa_Writes_row, Ins.cells, ofDs, hm, hform, f9, writesV]
    refine (callW_runR hp (by simpa using hf) 0 6 (by omega) (by omega) (by omega)).mono ?_
    intro v s hv
    simp [FinW]
    exact hv.pre (.push _)
  · simp [F236_isa_Writes_row, Ins.cells, ofDs, hm, hform, f2, f3, f4, f6, f9, f10, writesV, FinW]
    exact (NewL.nil _).pre (.push _)
end
end Go.Sh
