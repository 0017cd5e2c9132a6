/- What the functions of the package isa that tell registers come to. -/
import Derived.Test.YtnemobbnlacmjaaDoorShLisaRange
import Derived.Test.YtnemobbnlacmjaaDoorShLins
import Derived.Test.YtnemobbnlacmjaaDoorShBe
import Derived.Test.YtnemobbnlacmjaaDoorShFcmp
import Derived.Test.YtnemobbnlacmjaaDoorShFbits
import Derived.Test.YtnemobbnlacmjaaDoorShFlaw0
set_option linter.unusedVariables false
set_option linter.unusedSimpArgs false
namespace Go.Sh
def regFns : List (Nat × SFn) := [(91, F91_isa_run), (82, F82_isa_Writes), (83, F83_isa_Reads), (92, F92_slices_Sort_int_int), (93, F93_slices_Compact_int_int), (97, F97_math_bits_Len), (109, F109_math_bits_Len64), (98, F98_slices_pdqsortOrdered_int), (99, F99_slices_insertionSortOrdered_int), (105, F105_cmp_Less_int), (115, F115_cmp_isNaN_int)]
def jwFns : List (Nat × SFn) := [(84, F84_isa_Jumps), (85, F85_isa_Wide)]
/-- Classes of what may be: the two sides tell the same of them. -/
theorem cls_shape : ∀ c ∈ classes, c.e = 0 → c.uform = c.form ∧ (c.rows.head?.map fun r => (r.form, r.src)) = some (c.form, c.d.src) ∧ 1 ≤ c.form ∧ c.form ≤ 10 ∧ (c.form = 6 → c.d.imm = false ∧ c.d.imms = atomsL) := by decide +kernel
theorem cls_mov : ∀ op : Nat, op < 256 → (match clsAt op with | some c => decide (c.form = 3) && (decide (op &&& 240 = 176) != decide (op = 183 ∨ op = 191 ∨ op = 180 ∨ op = 188)) | none => false) = false := by decide +kernel
structure MayAt (x : Ins) (op : Nat) (c : OpC) : Prop where
  opv : x.op = (op : Int)
  lt : op < 256
  mem : c ∈ classes
  cls : clsAt op = some c
  e : c.e = 0
  may : c.d.may x = true
theorem may_at {x : Ins} (h : mayV x = 0) : ∃ op c, MayAt x op c := by
  unfold mayV at h
  split at h
  · rename_i hop
    obtain ⟨op, hop'⟩ : ∃ op : Nat, x.op = op := ⟨x.op.toNat, by omega⟩
    rw [hop', Int.toNat_natCast] at h
    split at h
    · rename_i c hc
      obtain ⟨k, hk, hck⟩ := Option.bind_eq_some_iff.1 hc
      split at h
      · omega
      · split at h
        · rename_i he hm
          exact ⟨op, c, hop', by omega, List.mem_of_getElem? hck, hc, by omega, hm⟩
        · omega
    · omega
  · omega
def icl (l : List Int) : List D := (l.map ic).flatten
def isl (l : List Int) : V := .d (.sl l.length (decide (0 < l.length)) (icl l))
theorem isl_c (l : List Int) : SlC 1 (isl l) (l.map ic) := SlC.of_sl (map_sz icC l) (by simp) rfl
theorem isl_d (l : List Int) : SlD 1 (isl l) (l.map ic) := ⟨map_sz icC l, decide (0 < l.length), by simp [isl, icl]⟩
@[simp] theorem isl_close1 (l : List Int) : close1 (isl l) = some (isl l) := rfl
@[simp] theorem isl_esc (l : List Int) (st : St) (a b : Nat) : esc st a b (isl l) = some (isl l) := rfl
@[simp] theorem isl_esc1 (l : List Int) (st : St) (a b : Nat) : esc1 st a b (isl l) = some (isl l) := rfl
@[simp] theorem isl_ok1 (l : List Int) : V.ok1 (isl l) = true := rfl
def prRun : Prog := progOf [(91, F91_isa_run), (94, F94_spindleref2_upTo)] fun _ => none
theorem run_all : [((0, 9), [0, 1, 2, 3, 4, 5, 6, 7, 8, 9]), ((1, 2), [1, 2]), ((1, 4), [1, 2, 3, 4]), ((0, 5), [0, 1, 2, 3, 4, 5])].all (fun (p : (Int × Int) × List Int) => runV prRun 40 91 [.i .i64 p.1.1, .i .i64 p.1.2] (isl p.2) && runV prRun 40 94 [.i .i64 p.1.1, .i .i64 p.1.2] (isl p.2)) = true := by decide +kernel
/-- The registers that are written. -/
def writesV (f : Int) (x : Ins) : List Int := if f = 3 ∨ f = 2 ∨ f = 4 ∨ f = 10 then [x.dst] else if f = 6 then (if x.imm = 241 then [0] else if x.imm % 2 = 1 then [x.src] else []) else if f = 9 then [0, 1, 2, 3, 4, 5] else []
def jumpsV (f : Int) (x : Ins) : Int := if f = 7 then 1 else if f = 8 then 2 else if f = 1 then 4 else if f = 9 ∧ x.src = 1 then 3 else 0
theorem imm_atom {x : Ins} {op : Nat} {c : OpC} (h : MayAt x op c) (h6 : c.form = 6) : x.imm ∈ atomsL := by
  obtain ⟨_, _, _, _, hs⟩ := cls_shape c h.mem h.e
  obtain ⟨h1, h2⟩ := hs h6
  have := h.may
  simp only [OpD.may, Bool.and_eq_true, h1, h2, Bool.false_eq_true, if_false, decide_eq_true_eq] at this
  exact this.2
section
variable {pr : Prog} (hI : IsaOk pr) (hp : Sub regFns pr) {st : St}
include hp
theorem den_run {a b : Int} {l : List Int} (h : ((a, b), l) ∈ [(((0 : Int), (9 : Int)), ([0, 1, 2, 3, 4, 5, 6, 7, 8, 9] : List Int)), ((1, 2), [1, 2]), ((1, 4), [1, 2, 3, 4]), ((0, 5), [0, 1, 2, 3, 4, 5])]) : den pr 91 [.d (.i .i64 a), .d (.i .i64 b)] st = some (isl l, st) := by
  have hE : Ext (progOf [(91, F91_isa_run)] fun _ => none) pr := ext_of (fun x hx => by
    simp only [List.mem_singleton] at hx
    subst hx
    exact hp.at 0 rfl) fun _ _ h => by cases h
  have hrun : ∀ p ∈ [(((0 : Int), (9 : Int)), ([0, 1, 2, 3, 4, 5, 6, 7, 8, 9] : List Int)), ((1, 2), [1, 2]), ((1, 4), [1, 2, 3, 4]), ((0, 5), [0, 1, 2, 3, 4, 5])], runV (progOf [(91, F91_isa_run)] fun _ => none) 40 91 [.i .i64 p.1.1, .i .i64 p.1.2] (isl p.2) = true := by decide +kernel
  exact den_of_runV (xs := [.i .i64 a, .i .i64 b]) (runV_ext hE (hrun _ h)) st
include hI
theorem den_Writes_no {x : Ins} (h : mayV x ≠ 0) : den pr 82 [.agg (ofDs x.cells)] st = some (isl [], st) := by
  refine den_shut (hp.at 1 rfl) rfl rfl (by simp; rfl) ?_
  have hm := fun st => den_may hI (st := st) x
  have hm : ∀ st, den pr 27 [.agg [.d (.i .i64 x.op), .d (.i .i64 x.dst), .d (.i .i64 x.src), .d (.i .i64 x.off), .d (.i .i64 x.imm)]] st = some (.d (.i .i64 (mayV x)), st) := hm
  simp [F82_isa_Writes, Ins.cells, ofDs, hm, h, isl, icl]
theorem den_Writes {x : Ins} {op : Nat} {c : OpC} (h : MayAt x op c) (h0 : mayV x = 0) : den pr 82 [.agg (ofDs x.cells)] st = some (isl (writesV c.form x), st) := by
  refine den_shut (hp.at 1 rfl) rfl rfl (by simp; rfl) ?_
  have hm := fun st => den_may hI (st := st) x
  obtain ⟨c', hc', hcl, hform, hinfo, _⟩ := cls_facts hI op h.lt
  obtain rfl : c = c' := Option.some.inj (h.cls.symm.trans hcl)
  have h05 := fun st => den_run (pr := pr) hp (st := st) (a := 0) (b := 5) (l := [0, 1, 2, 3, 4, 5]) (by simp)
  have hat := imm_atom h
  obtain ⟨iop, dst, src, off, imm⟩ := x
  have hop : iop = op := h.opv
  subst hop
  simp only at hat
  simp only [Ins.cells, ofDs, List.map_cons, List.map_nil, h0] at hm
  generalize c.form = f at *
  by_cases f3 : f = 3
  · simp [F82_isa_Writes, Ins.cells, ofDs, hm, hform, f3, writesV, isl, icl, ic, reps, fillV, lay]
  by_cases f2 : f = 2
  · simp [F82_isa_Writes, Ins.cells, ofDs, hm, hform, f2, writesV, isl, icl, ic, reps, fillV, lay]
  by_cases f4 : f = 4
  · simp [F82_isa_Writes, Ins.cells, ofDs, hm, hform, f4, writesV, isl, icl, ic, reps, fillV, lay]
  by_cases f10 : f = 10
  · simp [F82_isa_Writes, Ins.cells, ofDs, hm, hform, f10, writesV, isl, icl, ic, reps, fillV, lay]
  by_cases f6 : f = 6
  · have hb : bitI .and .i64 imm 1 = some (.i .i64 (imm % 2)) := by
      have hr : ∀ i ∈ atomsL, 0 ≤ i ∧ i ≤ 241 := by decide
      obtain ⟨r0, r1⟩ := hr imm (hat f6)
      obtain ⟨n, rfl⟩ : ∃ n : Nat, imm = n := ⟨imm.toNat, by omega⟩
      have := and_nat .i64 n 1 (by simp [IntKind.bits]; omega) (by simp [IntKind.bits])
      rw [Nat.and_one_is_mod, wrap_i64 (by omega) (by omega)] at this
      simpa using this
    by_cases i241 : imm = 241
    · have i241 : (imm = 241) = True := eq_true i241
      simp [F82_isa_Writes, Ins.cells, ofDs, hm, hform, f6, writesV, isl, icl, ic, reps, fillV, lay, i241]
    by_cases i2 : imm % 2 = 1
    · simp [F82_isa_Writes, Ins.cells, ofDs, hm, hform, f6, writesV, isl, icl, ic, reps, fillV, lay, i241, hb, i2]
    · have i2' : imm % 2 = 0 := by omega
      simp [F82_isa_Writes, Ins.cells, ofDs, hm, hform, f6, writesV, isl, icl, ic, reps, fillV, lay, i241, hb, i2']
  by_cases f9 : f = 9
  · simp [F82_isa_Writes, Ins.cells, ofDs, hm, hform, f9, writesV, h05]
  · simp [F82_isa_Writes, Ins.cells, ofDs, hm, hform, f2, f3, f4, f6, f9, f10, writesV, isl, icl]
end
section
variable {pr : Prog} (hI : IsaOk pr) (hj : Sub jwFns pr) {st : St}
include hI hj
theorem den_Jumps_no {x : Ins} (h : mayV x ≠ 0) : den pr 84 [.agg (ofDs x.cells)] st = some (.d (.i .i64 0), st) := by
  refine den_shut (hj.at 0 rfl) rfl rfl (by simp; rfl) ?_
  have hm : ∀ st, den pr 27 [.agg [.d (.i .i64 x.op), .d (.i .i64 x.dst), .d (.i .i64 x.src), .d (.i .i64 x.off), .d (.i .i64 x.imm)]] st = some (.d (.i .i64 (mayV x)), st) := fun st => den_may hI (st := st) x
  simp [F84_isa_Jumps, Ins.cells, ofDs, hm, h]
theorem den_Jumps {x : Ins} {op : Nat} {c : OpC} (h : MayAt x op c) (h0 : mayV x = 0) : den pr 84 [.agg (ofDs x.cells)] st = some (.d (.i .i64 (jumpsV c.form x)), st) := by
  refine den_shut (hj.at 0 rfl) rfl rfl (by simp; rfl) ?_
  have hm := fun st => den_may hI (st := st) x
  obtain ⟨c', hc', hcl, hform, hinfo, _⟩ := cls_facts hI op h.lt
  obtain rfl : c = c' := Option.some.inj (h.cls.symm.trans hcl)
  obtain ⟨iop, dst, src, off, imm⟩ := x
  have hop : iop = op := h.opv
  subst hop
  simp only [Ins.cells, ofDs, List.map_cons, List.map_nil, h0] at hm
  generalize c.form = f at *
  by_cases f7 : f = 7
  · simp [F84_isa_Jumps, Ins.cells, ofDs, hm, hform, f7, jumpsV]
  by_cases f8 : f = 8
  · simp [F84_isa_Jumps, Ins.cells, ofDs, hm, hform, f8, jumpsV]
  by_cases f1 : f = 1
  · simp [F84_isa_Jumps, Ins.cells, ofDs, hm, hform, f1, jumpsV]
  by_cases f9 : f = 9
  · by_cases s1 : src = 1
    · have s1 : (src = 1) = True := eq_true s1
      simp [F84_isa_Jumps, Ins.cells, ofDs, hm, hform, f9, jumpsV, s1]
    · simp [F84_isa_Jumps, Ins.cells, ofDs, hm, hform, f9, jumpsV, s1]
  · simp [F84_isa_Jumps, Ins.cells, ofDs, hm, hform, f7, f8, f1, f9, jumpsV]
omit hI in
theorem den_Wide (x : Ins) : den pr 85 [.agg (ofDs x.cells)] st = some (.d (.b (decide (x.op = 24))), st) := by
  refine den_shut (hj.at 1 rfl) rfl rfl (by simp; rfl) ?_
  simp [F85_isa_Wide, Ins.cells, ofDs]
end
end Go.Sh
