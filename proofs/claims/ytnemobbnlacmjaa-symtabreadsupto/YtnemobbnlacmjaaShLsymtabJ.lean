/- What the document's Write comes to. -/
import Derived.Test.YtnemobbnlacmjaaShLsymtabC
import Derived.Test.YtnemobbnlacmjaaShFref10
set_option linter.unusedVariables false
set_option linter.unusedSimpArgs false
namespace Go.Sh
def refWFns : List (Nat × SFn) := [(38, F38_spindleref10_Sort), (39, F39_spindleref10_follows), (40, F40_spindleref10_number), (41, F41_spindleref10_Write)]
def refSFns : List (Nat × SFn) := [(38, F38_spindleref10_Sort), (39, F39_spindleref10_follows)]
theorem refS_of {pr : Prog} (h : Sub refWFns pr) : Sub refSFns pr := fun x hx => h x (by
  simp only [refSFns, List.mem_cons, List.not_mem_nil, or_false] at hx
  rcases hx with rfl | rfl <;> simp [refWFns])
/-- A symbol's sort, by the document. -/
def sortB (x : Sym) : Int :=
  if x.name < 0 ∨ 4294967295 < x.name then 0
  else if x.kind = 2 ∧ x.sec = 1 ∧ 0 ≤ x.value ∧ x.value.tmod 8 = 0 ∧ 0 < x.size ∧ x.size.tmod 8 = 0 then (if x.binding = 0 then 1 else if x.binding = 1 then 3 else 0)
  else if x.binding = 0 ∧ x.kind = 1 ∧ x.sec = 2 ∧ 0 ≤ x.value ∧ x.value.tmod 16 = 0 ∧ x.size = 16 then 2
  else if x.binding = 1 ∧ x.kind = 0 ∧ x.sec = 0 ∧ x.value = 0 ∧ x.size = 0 then 4
  else 0
def sortN : Option Srt → Int
  | none => 0
  | some s => s.rank
section
variable {pr : Prog} (hp : Sub refSFns pr) {st : St}
include hp
theorem den_refSortB (x : Sym) : den pr 38 [.agg (ofDs x.cells)] st = some (.d (.i .i64 (sortB x)), st) := by
  refine den_shut (hp.at 0 rfl) rfl rfl (by simp; rfl) ?_
  simp only [Sym.cells, ofDs, List.map_cons, List.map_nil]
  by_cases h1 : x.name < 0
  · simp [F38_spindleref10_Sort, sortB, lay, h1]
  · by_cases h2 : 4294967295 < x.name
    · simp [F38_spindleref10_Sort, sortB, lay, h1, h2]
    · by_cases h3 : x.kind = 2
      · by_cases h4 : x.sec = 1
        · by_cases h5 : 0 ≤ x.value
          · by_cases h6 : x.value.tmod 8 = 0
            · by_cases h7 : 0 < x.size
              · by_cases h8 : x.size.tmod 8 = 0
                · by_cases h9 : x.binding = 0
                  · simp [F38_spindleref10_Sort, sortB, lay, h1, h2, h3, h4, h5, h6, h7, h8, h9]
                  · by_cases h10 : x.binding = 1
                    · simp [F38_spindleref10_Sort, sortB, lay, h1, h2, h3, h4, h5, h6, h7, h8, h9, h10]
                    · simp [F38_spindleref10_Sort, sortB, lay, h1, h2, h3, h4, h5, h6, h7, h8, h9, h10]
                · by_cases h11 : x.binding = 0
                  · simp [F38_spindleref10_Sort, sortB, lay, h1, h2, h3, h4, h5, h6, h7, h8, h11]
                  · by_cases h12 : x.binding = 1
                    · simp [F38_spindleref10_Sort, sortB, lay, h1, h2, h3, h4, h5, h6, h7, h8, h11, h12]
                    · simp [F38_spindleref10_Sort, sortB, lay, h1, h2, h3, h4, h5, h6, h7, h8, h11, h12]
              · by_cases h13 : x.binding = 0
                · simp [F38_spindleref10_Sort, sortB, lay, h1, h2, h3, h4, h5, h6, h7, h13]
                · by_cases h14 : x.binding = 1
                  · simp [F38_spindleref10_Sort, sortB, lay, h1, h2, h3, h4, h5, h6, h7, h13, h14]
                  · simp [F38_spindleref10_Sort, sortB, lay, h1, h2, h3, h4, h5, h6, h7, h13, h14]
            · by_cases h15 : x.binding = 0
              · simp [F38_spindleref10_Sort, sortB, lay, h1, h2, h3, h4, h5, h6, h15]
              · by_cases h16 : x.binding = 1
                · simp [F38_spindleref10_Sort, sortB, lay, h1, h2, h3, h4, h5, h6, h15, h16]
                · simp [F38_spindleref10_Sort, sortB, lay, h1, h2, h3, h4, h5, h6, h15, h16]
          · by_cases h17 : x.binding = 0
            · simp [F38_spindleref10_Sort, sortB, lay, h1, h2, h3, h4, h5, h17]
            · by_cases h18 : x.binding = 1
              · simp [F38_spindleref10_Sort, sortB, lay, h1, h2, h3, h4, h5, h17, h18]
              · simp [F38_spindleref10_Sort, sortB, lay, h1, h2, h3, h4, h5, h17, h18]
        · by_cases h19 : x.binding = 0
          · simp [F38_spindleref10_Sort, sortB, lay, h1, h2, h3, h4, h19]
          · by_cases h20 : x.binding = 1
            · simp [F38_spindleref10_Sort, sortB, lay, h1, h2, h3, h4, h19, h20]
            · simp [F38_spindleref10_Sort, sortB, lay, h1, h2, h3, h4, h19, h20]
      · by_cases h21 : x.binding = 0
        · by_cases h22 : x.kind = 1
          · by_cases h23 : x.sec = 2
            · by_cases h24 : 0 ≤ x.value
              · by_cases h25 : x.value.tmod 16 = 0
                · by_cases h26 : x.size = 16
                  · simp [F38_spindleref10_Sort, sortB, lay, h1, h2, h3, h21, h22, h23, h24, h25, h26]
                  · simp [F38_spindleref10_Sort, sortB, lay, h1, h2, h3, h21, h22, h23, h24, h25, h26]
                · simp [F38_spindleref10_Sort, sortB, lay, h1, h2, h3, h21, h22, h23, h24, h25]
              · simp [F38_spindleref10_Sort, sortB, lay, h1, h2, h3, h21, h22, h23, h24]
            · simp [F38_spindleref10_Sort, sortB, lay, h1, h2, h3, h21, h22, h23]
          · simp [F38_spindleref10_Sort, sortB, lay, h1, h2, h3, h21, h22]
        · by_cases h27 : x.binding = 1
          · by_cases h28 : x.kind = 0
            · by_cases h29 : x.sec = 0
              · by_cases h30 : x.value = 0
                · by_cases h31 : x.size = 0
                  · simp [F38_spindleref10_Sort, sortB, lay, h1, h2, h3, h21, h27, h28, h29, h30, h31]
                  · simp [F38_spindleref10_Sort, sortB, lay, h1, h2, h3, h21, h27, h28, h29, h30, h31]
                · simp [F38_spindleref10_Sort, sortB, lay, h1, h2, h3, h21, h27, h28, h29, h30]
              · simp [F38_spindleref10_Sort, sortB, lay, h1, h2, h3, h21, h27, h28, h29]
            · simp [F38_spindleref10_Sort, sortB, lay, h1, h2, h3, h21, h27, h28]
          · simp [F38_spindleref10_Sort, sortB, lay, h1, h2, h3, h21, h27]
end
theorem sortB_eq (x : Sym) : sortB x = sortN x.sortOk := by
  unfold sortB Sym.sortOk
  by_cases hn : x.name < 0 ∨ 4294967295 < x.name
  · rw [if_pos hn]
    split
    · cases sortOf (16 * x.binding + x.kind) with
      | none => rfl
      | some s => simp only; rw [if_neg (by omega)]; rfl
    · rfl
  rw [if_neg hn]
  have hn' : 0 ≤ x.name ∧ x.name ≤ 4294967295 := by omega
  by_cases hb : x.binding = 0 ∨ x.binding = 1
  rotate_left
  · have h0 : x.binding ≠ 0 := fun h => hb (.inl h)
    have h1 : x.binding ≠ 1 := fun h => hb (.inr h)
    rw [if_neg (c := 0 ≤ x.binding ∧ x.binding ≤ 1 ∧ 0 ≤ x.kind ∧ x.kind ≤ 2) (by omega)]
    simp [h0, h1, sortN]
  by_cases hk : x.kind = 0 ∨ x.kind = 1 ∨ x.kind = 2
  rotate_left
  · have h0 : x.kind ≠ 0 := fun h => hk (.inl h)
    have h1 : x.kind ≠ 1 := fun h => hk (.inr (.inl h))
    have h2 : x.kind ≠ 2 := fun h => hk (.inr (.inr h))
    rw [if_neg (c := 0 ≤ x.binding ∧ x.binding ≤ 1 ∧ 0 ≤ x.kind ∧ x.kind ≤ 2) (by omega)]
    simp [h0, h1, h2, sortN]
  rcases hb with hb | hb <;> rcases hk with hk | hk | hk <;> simp [hb, hk, sortOf, hn', Srt.sec, Srt.value, Srt.size, and_assoc, sortN] <;> split <;> rename_i h <;> simp [h, Srt.rank]
theorem den_refSort {pr : Prog} (hp : Sub refSFns pr) {st : St} (x : Sym) : den pr 38 [.agg (ofDs x.cells)] st = some (.d (.i .i64 (sortN x.sortOk)), st) := by
  rw [den_refSortB hp, sortB_eq]
end Go.Sh
