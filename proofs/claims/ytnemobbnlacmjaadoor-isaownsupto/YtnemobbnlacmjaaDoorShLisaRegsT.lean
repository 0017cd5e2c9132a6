/- Lists of at most three numbers, sorted and made of different ones, in a row of memory. -/
import Derived.Test.YtnemobbnlacmjaaDoorShLisaRegs
set_option linter.unusedVariables false
set_option linter.unusedSimpArgs false
namespace Go.Sh
def ofI (l : List Int) : List V := l.map fun x => .d (.i .i64 x)
theorem wrap_u64' (x : Int) : IntKind.wrap .u64 x = x % 18446744073709551616 := by
  simp [IntKind.wrap, IntKind.signed, IntKind.bits]
section
variable {pr : Prog} (hp : Sub regFns pr) {st : St}
include hp
theorem den_nan (a : Int) : den pr 115 [.d (.i .i64 a)] st = some (.d (.b false), st) := den_shut (hp.at 10 rfl) rfl rfl (by simp; rfl) (by simp [F115_cmp_isNaN_int])
theorem den_lessI (a b : Int) : den pr 105 [.d (.i .i64 a), .d (.i .i64 b)] st = some (.d (.b (decide (a < b))), st) := by
  refine den_shut (hp.at 9 rfl) rfl rfl (by simp; rfl) ?_
  have hn := fun a st => den_nan (pr := pr) hp (st := st) a
  by_cases h : a < b <;> simp [F105_cmp_Less_int, hn, h]
theorem den_len {n k : Int} (h : (n, k) ∈ [((0 : Int), (0 : Int)), (1, 1), (2, 2), (3, 2)]) : den pr 97 [.d (.i .u64 n)] st = some (.d (.i .i64 k), st) := by
  have hE : Ext (progOf [(97, F97_math_bits_Len), (109, F109_math_bits_Len64)] fun _ => none) pr := ext_of (fun x hx => by
    simp only [List.mem_cons, List.not_mem_nil, or_false] at hx
    rcases hx with rfl | rfl
    · exact hp.at 5 rfl
    · exact hp.at 6 rfl) fun _ _ h => by cases h
  have hrun : ∀ p ∈ [((0 : Int), (0 : Int)), (1, 1), (2, 2), (3, 2)], runD (progOf [(97, F97_math_bits_Len), (109, F109_math_bits_Len64)] fun _ => none) 40 97 [.i .u64 p.1] (.i .i64 p.2) = true := by decide +kernel
  exact den_of_run (xs := [.i .u64 n]) (runD_ext hE (hrun _ h)) st
/-- The insertion's way, lists of one to three. -/
theorem den_ins1 {bs : List Blk} {ts : List Nat} {fl tf k cap : Nat} {tail : List V} {a : Int} (hk : bs[k]? = some (.row (ofI [a] ++ tail))) (hf : fl ≤ k) :
    den pr 99 [.rsl 1 k 0 1 cap, .d (.i .i64 0), .d (.i .i64 1)] (s0 bs ts fl tf) = some (.tup [], s0 bs ts fl tf) := by
  rw [den_fn (hp.at 8 rfl) rfl rfl, start_raw _ rfl]
  simp [F99_slices_insertionSortOrdered_int, wrap_i64]
  rw [cden_loopK]
  simp [F99_slices_insertionSortOrdered_int_b0]
theorem den_ins2 {bs : List Blk} {ts : List Nat} {fl tf k cap : Nat} {tail : List V} {a b : Int} (hk : bs[k]? = some (.row (ofI [a, b] ++ tail))) (hf : fl ≤ k) :
    den pr 99 [.rsl 1 k 0 2 cap, .d (.i .i64 0), .d (.i .i64 2)] (s0 bs ts fl tf) = some (.tup [], s0 (bs.set k (.row (ofI (if b < a then [b, a] else [a, b]) ++ tail))) ts fl tf) := by
  obtain ⟨hlt, hkk⟩ := List.getElem?_eq_some_iff.1 hk
  rw [den_fn (hp.at 8 rfl) rfl rfl, start_raw _ rfl]
  have hl := fun a b st => den_lessI (pr := pr) hp (st := st) a b
  simp [F99_slices_insertionSortOrdered_int, wrap_i64]
  rw [cden_loopK]
  simp [F99_slices_insertionSortOrdered_int_b0]
  rw [cden_loopK]
  have hkk' : bs[k] = .row (.d (.i .i64 a) :: .d (.i .i64 b) :: tail) := hkk
  by_cases h : b < a
  · simp [F99_slices_insertionSortOrdered_int_b1, iaddrV, hkk', hlt, hl, h, hf, wrap_i64, lay, ofI]
    rw [cden_loopK]
    simp [F99_slices_insertionSortOrdered_int_b1, wrap_i64]
    rw [cden_loopK]
    simp [F99_slices_insertionSortOrdered_int_b0]
  · simp [F99_slices_insertionSortOrdered_int_b1, iaddrV, hkk', hlt, hl, h, hf, wrap_i64, lay, ofI]
    rw [cden_loopK]
    simp [F99_slices_insertionSortOrdered_int_b0]
    rw [← hkk', List.set_getElem_self]
/-- Three of which the first is none greater than the others. -/
theorem den_ins3 {bs : List Blk} {ts : List Nat} {fl tf k cap : Nat} {tail : List V} {z a b : Int} (hk : bs[k]? = some (.row (ofI [z, a, b] ++ tail))) (hf : fl ≤ k) (hza : z ≤ a) (hzb : z ≤ b) :
    den pr 99 [.rsl 1 k 0 3 cap, .d (.i .i64 0), .d (.i .i64 3)] (s0 bs ts fl tf) = some (.tup [], s0 (bs.set k (.row (ofI (if b < a then [z, b, a] else [z, a, b]) ++ tail))) ts fl tf) := by
  obtain ⟨hlt, hkk⟩ := List.getElem?_eq_some_iff.1 hk
  rw [den_fn (hp.at 8 rfl) rfl rfl, start_raw _ rfl]
  have hl := fun a b st => den_lessI (pr := pr) hp (st := st) a b
  have hkk' : bs[k] = .row (.d (.i .i64 z) :: .d (.i .i64 a) :: .d (.i .i64 b) :: tail) := hkk
  have n1 : ¬ a < z := by omega
  have n2 : ¬ b < z := by omega
  simp [F99_slices_insertionSortOrdered_int, wrap_i64]
  rw [cden_loopK]
  simp [F99_slices_insertionSortOrdered_int_b0]
  rw [cden_loopK]
  simp [F99_slices_insertionSortOrdered_int_b1, iaddrV, hkk', hlt, hl, n1, hf, wrap_i64, lay]
  rw [cden_loopK]
  simp [F99_slices_insertionSortOrdered_int_b0]
  rw [cden_loopK]
  by_cases h : b < a
  · simp [F99_slices_insertionSortOrdered_int_b1, iaddrV, hkk', hlt, hl, h, hf, wrap_i64, lay, ofI]
    rw [cden_loopK]
    simp [F99_slices_insertionSortOrdered_int_b1, iaddrV, hlt, hl, n2, hf, wrap_i64, lay]
    rw [cden_loopK]
    simp [F99_slices_insertionSortOrdered_int_b0]
  · simp [F99_slices_insertionSortOrdered_int_b1, iaddrV, hkk', hlt, hl, h, hf, wrap_i64, lay, ofI]
    rw [cden_loopK]
    simp [F99_slices_insertionSortOrdered_int_b0]
    rw [← hkk', List.set_getElem_self]
theorem den_ins0 {st : St} : den pr 99 [.d (.sl 0 false []), .d (.i .i64 0), .d (.i .i64 0)] st = some (.tup [], st) := by
  rw [den_fn (hp.at 8 rfl) rfl rfl, start_raw _ rfl]
  simp [F99_slices_insertionSortOrdered_int, wrap_i64]
  rw [cden_loopK]
  simp [F99_slices_insertionSortOrdered_int_b0]
theorem den_Sort {v : V} {n : Nat} {k : Int} {st st' : St} (hv : lenV v = some n) (hn : ((n : Int), k) ∈ [((0 : Int), (0 : Int)), (1, 1), (2, 2), (3, 2)]) (h : den pr 99 [v, .d (.i .i64 0), .d (.i .i64 n)] st = some (.tup [], st')) : den pr 92 [v] st = some (.tup [], st') := by
  have hb : (n : Int) ≤ 3 := by
    simp only [List.mem_cons, List.not_mem_nil, or_false, Prod.mk.injEq] at hn
    omega
  have hl := fun st => den_len (pr := pr) hp (st := st) hn
  have w1 : IntKind.wrap .u64 (n : Int) = n := by rw [wrap_u64']; omega
  have w2 : IntKind.wrap .i64 (n : Int) = n := wrap_i64 (by omega) (by omega)
  have h98 : den pr 98 [v, .d (.i .i64 0), .d (.i .i64 n), .d (.i .i64 k)] st = some (.tup [], st') := by
    rw [den_fn (hp.at 7 rfl) rfl rfl, start_raw _ rfl]
    have h12 : (n : Int) ≤ 12 := by omega
    simp [F98_slices_pdqsortOrdered_int]
    rw [cden_loopK]
    simp [F98_slices_pdqsortOrdered_int_b0, w2, h12, h]
  rw [den_fn (hp.at 3 rfl) rfl rfl, start_raw _ rfl]
  simp [F92_slices_Sort_int_int, hv, w1, hl, h98]
end
end Go.Sh
