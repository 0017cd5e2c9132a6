/- What the document's functions that tell registers come to. -/
import Derived.Test.YtnemobbnlacmjaaDoorShLisaRegs
set_option linter.unusedVariables false
set_option linter.unusedSimpArgs false
namespace Go.Sh
def rrefFns : List (Nat × SFn) := [(94, F94_spindleref2_upTo), (86, F86_spindleref2_Writes), (87, F87_spindleref2_Reads), (95, F95_spindleref2_called), (96, F96_spindleref2_rising)]
def rjFns : List (Nat × SFn) := [(88, F88_spindleref2_Jumps), (89, F89_spindleref2_Wide)]
section
variable {pr : Prog} (hR : RefOk pr) (hp : Sub rrefFns pr) {st : St}
include hp
theorem den_upTo {a b : Int} {l : List Int} (h : ((a, b), l) ∈ [(((0 : Int), (9 : Int)), ([0, 1, 2, 3, 4, 5, 6, 7, 8, 9] : List Int)), ((1, 2), [1, 2]), ((1, 4), [1, 2, 3, 4]), ((0, 5), [0, 1, 2, 3, 4, 5])]) : den pr 94 [.d (.i .i64 a), .d (.i .i64 b)] st = some (isl l, st) := by
  have hE : Ext (progOf [(94, F94_spindleref2_upTo)] fun _ => none) pr := ext_of (fun x hx => by
    simp only [List.mem_singleton] at hx
    subst hx
    exact hp.at 0 rfl) fun _ _ h => by cases h
  have hrun : ∀ p ∈ [(((0 : Int), (9 : Int)), ([0, 1, 2, 3, 4, 5, 6, 7, 8, 9] : List Int)), ((1, 2), [1, 2]), ((1, 4), [1, 2, 3, 4]), ((0, 5), [0, 1, 2, 3, 4, 5])], runV (progOf [(94, F94_spindleref2_upTo)] fun _ => none) 40 94 [.i .i64 p.1.1, .i .i64 p.1.2] (isl p.2) = true := by decide +kernel
  exact den_of_runV (xs := [.i .i64 a, .i .i64 b]) (runV_ext hE (hrun _ h)) st
include hR
omit hp in
theorem row_at {x : Ins} {op : Nat} {c : OpC} (h : MayAt x op c) : ∃ r rs, c.rows = r :: rs ∧ r.form = c.form ∧ r.src = c.d.src ∧ ∀ st, den pr 17 [.d (.i .i64 op)] st = some (dsl RowS.cells c.nz (r :: rs), st) := by
  obtain ⟨c', hc', hcl, hrow⟩ := row_facts hR op h.lt
  obtain rfl : c = c' := Option.some.inj (h.cls.symm.trans hcl)
  obtain ⟨_, hs, _⟩ := cls_shape c h.mem h.e
  cases hr : c.rows with
  | nil => rw [hr] at hs; simp at hs
  | cons r rs =>
    rw [hr] at hs hrow
    simp at hs
    exact ⟨r, rs, rfl, hs.1, hs.2, hrow⟩
theorem den_rWrites_no {x : Ins} (h : mayV x ≠ 0) : den pr 86 [.agg (ofDs x.cells)] st = some (isl [], st) := by
  refine den_shut (hp.at 1 rfl) rfl rfl (by simp; rfl) ?_
  have hm : ∀ st, den pr 65 [.agg [.d (.i .i64 x.op), .d (.i .i64 x.dst), .d (.i .i64 x.src), .d (.i .i64 x.off), .d (.i .i64 x.imm)]] st = some (.d (.i .i64 (mayV x)), st) := fun st => den_rmay hR (st := st) x
  simp [F86_spindleref2_Writes, Ins.cells, ofDs, hm, h, isl, icl]
theorem den_rWrites {x : Ins} {op : Nat} {c : OpC} (h : MayAt x op c) (h0 : mayV x = 0) : den pr 86 [.agg (ofDs x.cells)] st = some (isl (writesV c.form x), st) := by
  refine den_shut (hp.at 1 rfl) rfl rfl (by simp; rfl) ?_
  have hm := fun st => den_rmay hR (st := st) x
  obtain ⟨r, rs, _, hform, _, hrow⟩ := row_at hR h
  have h05 := fun st => den_upTo (pr := pr) hp (st := st) (a := 0) (b := 5) (l := [0, 1, 2, 3, 4, 5]) (by simp)
  have hat := imm_atom h
  have hu := dsl_d rowC c.nz (r :: rs)
  have hia := hu.iaddr (i := 0) (k := .i64) (by omega) (by simp)
  have hld := fun st => hu.load (st := st) (i := 0) (o := 0) (n := 1) (agg := false) (el := r.cells) (by simp) (by omega) (by omega)
  have hfa := hu.faddr (i := 0) (o := 0) (off := 0)
  obtain ⟨iop, dst, src, off, imm⟩ := x
  have hop : iop = op := h.opv
  subst hop
  simp only at hat
  simp only [Ins.cells, ofDs, List.map_cons, List.map_nil, h0] at hm
  have hld : ∀ st, loadV 1 false st (elP 10 (dsl RowS.cells c.nz (r :: rs)) 0 0) = some (.d (.i .i64 c.form)) := fun st => by rw [hld]; simp [RowS.cells, ofDs, hform]
  simp at hia hfa
  generalize dsl RowS.cells c.nz (r :: rs) = rv at *
  generalize c.form = f at *
  by_cases f3 : f = 3
  · simp [F86_spindleref2_Writes, Ins.cells, ofDs, hm, hrow, hia, hfa, hld, f3, writesV, isl, icl, ic, reps, fillV, lay]
  by_cases f2 : f = 2
  · simp [F86_spindleref2_Writes, Ins.cells, ofDs, hm, hrow, hia, hfa, hld, f2, writesV, isl, icl, ic, reps, fillV, lay]
  by_cases f4 : f = 4
  · simp [F86_spindleref2_Writes, Ins.cells, ofDs, hm, hrow, hia, hfa, hld, f4, writesV, isl, icl, ic, reps, fillV, lay]
  by_cases f10 : f = 10
  · simp [F86_spindleref2_Writes, Ins.cells, ofDs, hm, hrow, hia, hfa, hld, f10, writesV, isl, icl, ic, reps, fillV, lay]
  by_cases f6 : f = 6
  · have hb : imm.tmod 2 = imm % 2 := by
      have hr : ∀ i ∈ atomsL, 0 ≤ i ∧ i ≤ 241 := by decide
      obtain ⟨r0, r1⟩ := hr imm (hat f6)
      exact Int.tmod_eq_emod_of_nonneg r0
    by_cases i241 : imm = 241
    · have i241 : (imm = 241) = True := eq_true i241
      simp [F86_spindleref2_Writes, Ins.cells, ofDs, hm, hrow, hia, hfa, hld, f6, writesV, isl, icl, ic, reps, fillV, lay, i241]
    by_cases i2 : imm % 2 = 1
    · simp [F86_spindleref2_Writes, Ins.cells, ofDs, hm, hrow, hia, hfa, hld, f6, writesV, isl, icl, ic, reps, fillV, lay, i241, arI, hb, i2]
    · have i2' : imm % 2 = 0 := by omega
      simp [F86_spindleref2_Writes, Ins.cells, ofDs, hm, hrow, hia, hfa, hld, f6, writesV, isl, icl, ic, reps, fillV, lay, i241, arI, hb, i2']
  by_cases f9 : f = 9
  · simp [F86_spindleref2_Writes, Ins.cells, ofDs, hm, hrow, hia, hfa, hld, f9, writesV, h05]
  · simp [F86_spindleref2_Writes, Ins.cells, ofDs, hm, hrow, hia, hfa, hld, f2, f3, f4, f6, f9, f10, writesV, isl, icl]
end
section
variable {pr : Prog} (hR : RefOk pr) (hj : Sub rjFns pr) {st : St}
include hR hj
theorem den_rJumps_no {x : Ins} (h : mayV x ≠ 0) : den pr 88 [.agg (ofDs x.cells)] st = some (.d (.i .i64 0), st) := by
  refine den_shut (hj.at 0 rfl) rfl rfl (by simp; rfl) ?_
  have hm : ∀ st, den pr 65 [.agg [.d (.i .i64 x.op), .d (.i .i64 x.dst), .d (.i .i64 x.src), .d (.i .i64 x.off), .d (.i .i64 x.imm)]] st = some (.d (.i .i64 (mayV x)), st) := fun st => den_rmay hR (st := st) x
  simp [F88_spindleref2_Jumps, Ins.cells, ofDs, hm, h]
theorem den_rJumps {x : Ins} {op : Nat} {c : OpC} (h : MayAt x op c) (h0 : mayV x = 0) : den pr 88 [.agg (ofDs x.cells)] st = some (.d (.i .i64 (jumpsV c.form x)), st) := by
  refine den_shut (hj.at 0 rfl) rfl rfl (by simp; rfl) ?_
  have hm := fun st => den_rmay hR (st := st) x
  obtain ⟨r, rs, _, hform, _, hrow⟩ := row_at hR h
  have hu := dsl_d rowC c.nz (r :: rs)
  have hia := hu.iaddr (i := 0) (k := .i64) (by omega) (by simp)
  have hld := fun st => hu.load (st := st) (i := 0) (o := 0) (n := 1) (agg := false) (el := r.cells) (by simp) (by omega) (by omega)
  have hfa := hu.faddr (i := 0) (o := 0) (off := 0)
  obtain ⟨iop, dst, src, off, imm⟩ := x
  have hop : iop = op := h.opv
  subst hop
  simp only [Ins.cells, ofDs, List.map_cons, List.map_nil, h0] at hm
  have hld : ∀ st, loadV 1 false st (elP 10 (dsl RowS.cells c.nz (r :: rs)) 0 0) = some (.d (.i .i64 c.form)) := fun st => by rw [hld]; simp [RowS.cells, ofDs, hform]
  simp at hia hfa
  generalize dsl RowS.cells c.nz (r :: rs) = rv at *
  generalize c.form = f at *
  by_cases f7 : f = 7
  · simp [F88_spindleref2_Jumps, Ins.cells, ofDs, hm, hrow, hia, hfa, hld, f7, jumpsV]
  by_cases f8 : f = 8
  · simp [F88_spindleref2_Jumps, Ins.cells, ofDs, hm, hrow, hia, hfa, hld, f8, jumpsV]
  by_cases f1 : f = 1
  · simp [F88_spindleref2_Jumps, Ins.cells, ofDs, hm, hrow, hia, hfa, hld, f1, jumpsV]
  by_cases f9 : f = 9
  · by_cases s1 : src = 1
    · have s1 : (src = 1) = True := eq_true s1
      simp [F88_spindleref2_Jumps, Ins.cells, ofDs, hm, hrow, hia, hfa, hld, f9, jumpsV, s1]
    · simp [F88_spindleref2_Jumps, Ins.cells, ofDs, hm, hrow, hia, hfa, hld, f9, jumpsV, s1]
  · simp [F88_spindleref2_Jumps, Ins.cells, ofDs, hm, hrow, hia, hfa, hld, f7, f8, f1, f9, jumpsV]
omit hR in
theorem den_rWide (x : Ins) : den pr 89 [.agg (ofDs x.cells)] st = some (.d (.b (decide (x.op = 24))), st) := by
  refine den_shut (hj.at 1 rfl) rfl rfl (by simp; rfl) ?_
  simp [F89_spindleref2_Wide, Ins.cells, ofDs]
end
end Go.Sh
