/- The document's bytes of an instruction. -/
import Derived.Test.YtbjckcenlfgcaabDoorShLcodeH
import Derived.Test.YtbjckcenlfgcaabDoorShFref3
set_option linter.unusedVariables false
set_option linter.unusedSimpArgs false
namespace Go.Sh
def refEFns : List (Nat × SFn) := [(137, F137_spindleref3_number), (136, F136_spindleref3_Bytes), (8, F8_spindleref3_wide), (134, F134_spindleref3_Encode)]
def andV (y : Int) : Int := IntKind.wrap .i64 ((BitVec.ofInt IntKind.i64.bits y &&& BitVec.ofInt IntKind.i64.bits 255).toNat)
theorem and_255 (y : Int) : bitI .and .i64 y 255 = some (.i .i64 (andV y)) := rfl
theorem andV_u8 (y : Int) : IntKind.wrap .u8 (andV y) = ((byU y 0).toNat : Int) := by
  have h : (BitVec.ofInt IntKind.i64.bits y &&& BitVec.ofInt IntKind.i64.bits 255).toNat = (y % 18446744073709551616).toNat % 256 := by
    rw [BitVec.toNat_and]
    have e1 : (BitVec.ofInt IntKind.i64.bits y).toNat = (y % 18446744073709551616).toNat := by simp [BitVec.toNat_ofInt, IntKind.bits]
    have e2 : (BitVec.ofInt IntKind.i64.bits 255).toNat = 2 ^ 8 - 1 := by decide
    rw [e1, e2, Nat.and_two_pow_sub_one_eq_mod]
  unfold andV
  rw [h, byU_nat, wrap_i64 (by omega) (by omega), wrap_u8m]
  omega
theorem byU_shift (y : Int) (i : Nat) : byU (y / 256) i = byU y (i + 1) := by
  unfold byU
  rw [Int.ediv_ediv_of_nonneg (by decide)]
  congr 4
  rw [Int.pow_succ, Int.mul_comm]
section
variable {pr : Prog} (hp : Sub refEFns pr) {st : St}
include hp
theorem den_number2 (x : Int) : den pr 137 [.d (.i .i64 x), .d (.i .i64 2)] st = some (bsl true [byU x 0, byU x 1], st) := by
  refine den_shut (hp.at 0 rfl) rfl rfl (by simp; rfl) ?_
  simp [F137_spindleref3_number]
  have hf : x.fdiv 256 = x / 256 := fdiv_pos' x 256 (by decide)
  have w1 : IntKind.wrap .i64 1 = 1 := by decide
  have w2 : IntKind.wrap .i64 2 = 2 := by decide
  iterate 3
    rw [cden_loopK]
    simp [F137_spindleref3_number_b0, and_255, andV_u8, shI_shr, IntKind.bits, fillV, reps, ofDs, lay, appV, vw, w1, w2, hf, byU_shift]
  simp [bsl, byteCells, esc, esc1, escC]
theorem den_number4 (x : Int) : den pr 137 [.d (.i .i64 x), .d (.i .i64 4)] st = some (bsl true [byU x 0, byU x 1, byU x 2, byU x 3], st) := by
  refine den_shut (hp.at 0 rfl) rfl rfl (by simp; rfl) ?_
  simp [F137_spindleref3_number]
  have hf : ∀ x : Int, x.fdiv 256 = x / 256 := fun x => fdiv_pos' x 256 (by decide)
  have w1 : IntKind.wrap .i64 1 = 1 := by decide
  have w2 : IntKind.wrap .i64 2 = 2 := by decide
  have w3 : IntKind.wrap .i64 3 = 3 := by decide
  have w4 : IntKind.wrap .i64 4 = 4 := by decide
  iterate 5
    rw [cden_loopK]
    simp [F137_spindleref3_number_b0, and_255, andV_u8, shI_shr, IntKind.bits, fillV, reps, ofDs, lay, appV, vw, w1, w2, w3, w4, hf, byU_shift]
  simp [bsl, byteCells, esc, esc1, escC]
theorem den_refWide (x : Int) : den pr 8 [.d (.i .i64 x)] st = some (.d (.b (decide (x = 24))), st) := by
  refine den_shut (hp.at 2 rfl) rfl rfl (by simp; rfl) ?_
  simp [F8_spindleref3_wide]
theorem den_refBytes (x : Ins) : den pr 136 [.agg (ofDs x.cells)] st = some (bsl true x.enc, st) := by
  refine den_shut (hp.at 1 rfl) rfl rfl (by simp; rfl) ?_
  have hn2 := fun x st => den_number2 hp (st := st) x
  have hn4 := fun x st => den_number4 hp (st := st) x
  have hw := fun x st => den_refWide hp (st := st) x
  have hu : ∀ y, IntKind.wrap .u8 y = ((byU y 0).toNat : Int) := fun y => by rw [byU_nat, wrap_u8m]; simp
  have hds : ((byU (IntKind.wrap .i64 (x.dst + IntKind.wrap .i64 (16 * x.src))) 0).toNat : Int) = ((byU (x.dst + 16 * x.src) 0).toNat : Int) := by
    rw [byU_nat, byU_nat]
    simp only [IntKind.wrap, IntKind.bits, IntKind.signed]
    simp
    omega
  have hf : x.imm.fdiv 4294967296 = x.imm / 256 / 256 / 256 / 256 := by
    rw [fdiv_pos' x.imm 4294967296 (by decide)]
    omega
  by_cases hop : x.op = 24
  · have h24 : IntKind.wrap .u8 24 = ((byU 24 0).toNat : Int) := hu 24
    simp [F136_spindleref3_Bytes, Ins.cells, ofDs, fillV, reps, lay, hn2, hn4, hw, hop, appV, vw, bsl, byteCells, hu, hds, shI_shr, IntKind.bits, hf, byU_shift, esc, esc1, escC, Ins.enc]
  · simp [F136_spindleref3_Bytes, Ins.cells, ofDs, fillV, reps, lay, hn2, hn4, hw, hop, appV, vw, bsl, byteCells, hu, hds, esc, esc1, escC, Ins.enc]
end
end Go.Sh
