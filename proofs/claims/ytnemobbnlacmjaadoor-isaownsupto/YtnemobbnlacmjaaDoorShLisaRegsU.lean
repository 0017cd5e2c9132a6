/- Lists of at most three numbers: the different ones, in a row of memory. -/
import Derived.Test.YtnemobbnlacmjaaDoorShLisaRegsT
set_option linter.unusedVariables false
set_option linter.unusedSimpArgs false
namespace Go.Sh
def ddp : List Int → List Int
  | [a, b] => if a = b then [a] else [a, b]
  | [z, a, b] => if z = a then (if a = b then [z] else [z, b]) else if a = b then [z, a] else [z, a, b]
  | l => l
section
variable {pr : Prog} (hp : Sub regFns pr)
include hp
theorem den_cmp0 {st : St} : den pr 93 [.d (.sl 0 false [])] st = some (.d (.sl 0 false []), st) := by
  rw [den_fn (hp.at 4 rfl) rfl rfl, start_raw _ rfl]
  simp [F93_slices_Compact_int_int]
theorem den_cmp1 {k cap : Nat} {st : St} : den pr 93 [.rsl 1 k 0 1 cap] st = some (.rsl 1 k 0 1 cap, st) := by
  rw [den_fn (hp.at 4 rfl) rfl rfl, start_raw _ rfl]
  simp [F93_slices_Compact_int_int]
theorem den_cmp2 {bs : List Blk} {ts : List Nat} {fl tf k cap : Nat} {tail : List V} {a b : Int} (hk : bs[k]? = some (.row (ofI [a, b] ++ tail))) (hf : fl ≤ k) (hc : 2 ≤ cap) :
    ∃ tail', den pr 93 [.rsl 1 k 0 2 cap] (s0 bs ts fl tf) = some (.rsl 1 k 0 (ddp [a, b]).length cap, s0 (bs.set k (.row (ofI (ddp [a, b]) ++ tail'))) ts fl tf) := by
  obtain ⟨hlt, hkk⟩ := List.getElem?_eq_some_iff.1 hk
  have hkk' : bs[k] = .row (.d (.i .i64 a) :: .d (.i .i64 b) :: tail) := hkk
  rw [den_fn (hp.at 4 rfl) rfl rfl, start_raw _ rfl]
  have hc1 : 1 ≤ cap := by omega
  have hc1' : (1 : Int) ≤ cap := by omega
  simp [F93_slices_Compact_int_int]
  rw [cden_loopK]
  by_cases h : a = b
  · have h' : (b = a) = True := eq_true h.symm
    refine ⟨.d (.i .i64 0) :: tail, ?_⟩
    simp [F93_slices_Compact_int_int_b0, iaddrV, hkk', hlt, h', wrap_i64, slcV, bnds, bnd, hc]
    rw [cden_loopK]
    simp [F93_slices_Compact_int_int_b1, clrV, hkk', hlt, hf, reps, ofDs, lay, hc1, hc1', hc, slcV, bnds, bnd, h, ddp, ofI]
  · refine ⟨tail, ?_⟩
    have h' : ¬ b = a := fun e => h e.symm
    simp [F93_slices_Compact_int_int_b0, iaddrV, hkk', hlt, h, h', wrap_i64]
    rw [cden_loopK]
    simp [F93_slices_Compact_int_int_b0, ddp, h, ofI]
    rw [← hkk', List.set_getElem_self]
theorem den_cmp3 {bs : List Blk} {ts : List Nat} {fl tf k cap : Nat} {tail : List V} {z a b : Int} (hk : bs[k]? = some (.row (ofI [z, a, b] ++ tail))) (hf : fl ≤ k) (hc : 3 ≤ cap) :
    ∃ tail', den pr 93 [.rsl 1 k 0 3 cap] (s0 bs ts fl tf) = some (.rsl 1 k 0 (ddp [z, a, b]).length cap, s0 (bs.set k (.row (ofI (ddp [z, a, b]) ++ tail'))) ts fl tf) := by
  obtain ⟨hlt, hkk⟩ := List.getElem?_eq_some_iff.1 hk
  have hkk' : bs[k] = .row (.d (.i .i64 z) :: .d (.i .i64 a) :: .d (.i .i64 b) :: tail) := hkk
  rw [den_fn (hp.at 4 rfl) rfl rfl, start_raw _ rfl]
  have hc1 : 1 ≤ cap := by omega
  have hc1' : (1 : Int) ≤ cap := by omega
  have hc2 : 2 ≤ cap := by omega
  have hc2' : (2 : Int) ≤ cap := by omega
  simp [F93_slices_Compact_int_int]
  rw [cden_loopK]
  by_cases h : z = a
  · have h' : (a = z) = True := eq_true h.symm
    by_cases hab : a = b
    · have hab' : (b = a) = True := eq_true hab.symm
      refine ⟨.d (.i .i64 0) :: .d (.i .i64 0) :: tail, ?_⟩
      simp [F93_slices_Compact_int_int_b0, iaddrV, hkk', hlt, h', wrap_i64, slcV, bnds, bnd, hc]
      rw [cden_loopK]
      simp [F93_slices_Compact_int_int_b1, iaddrV, hkk', hlt, hab', wrap_i64]
      rw [cden_loopK]
      simp [F93_slices_Compact_int_int_b1, clrV, hkk', hlt, hf, reps, ofDs, lay, hc1, hc1', hc, slcV, bnds, bnd, h, hab, ddp, ofI]
    · have hab' : ¬ b = a := fun e => hab e.symm
      refine ⟨.d (.i .i64 0) :: tail, ?_⟩
      simp [F93_slices_Compact_int_int_b0, iaddrV, hkk', hlt, h', wrap_i64, slcV, bnds, bnd, hc]
      rw [cden_loopK]
      simp [F93_slices_Compact_int_int_b1, iaddrV, hkk', hlt, hab', wrap_i64, hf, lay]
      rw [cden_loopK]
      simp [F93_slices_Compact_int_int_b1, clrV, hkk', hlt, hf, reps, ofDs, lay, hc2, hc2', hc, slcV, bnds, bnd, h, hab, ddp, ofI]
  · have h' : ¬ a = z := fun e => h e.symm
    simp [F93_slices_Compact_int_int_b0, iaddrV, hkk', hlt, h', wrap_i64]
    rw [cden_loopK]
    by_cases hab : a = b
    · have hab' : (b = a) = True := eq_true hab.symm
      have hzb : ¬ z = b := fun e => h (e.trans hab.symm)
      refine ⟨.d (.i .i64 0) :: tail, ?_⟩
      simp [F93_slices_Compact_int_int_b0, iaddrV, hkk', hlt, hab', wrap_i64, slcV, bnds, bnd, hc]
      rw [cden_loopK]
      simp [F93_slices_Compact_int_int_b1, clrV, hkk', hlt, hf, reps, ofDs, lay, hc2, hc2', hc, slcV, bnds, bnd, h, hzb, hab, ddp, ofI]
    · have hab' : ¬ b = a := fun e => hab e.symm
      refine ⟨tail, ?_⟩
      simp [F93_slices_Compact_int_int_b0, iaddrV, hkk', hlt, hab', wrap_i64]
      rw [cden_loopK]
      simp [F93_slices_Compact_int_int_b0, ddp, h, hab, ofI]
      rw [← hkk', List.set_getElem_self]
end
end Go.Sh
