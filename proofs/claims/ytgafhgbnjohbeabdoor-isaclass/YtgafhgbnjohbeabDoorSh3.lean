/- Operations on values alone, the second part: parts of structs and arrays, strings, slices' bounds. -/
import Derived.Test.YtgafhgbnjohbeabDoorSh2
set_option linter.unusedVariables false
set_option linter.unusedSimpArgs false
namespace Go.Sh
open Go.RowKit

/-! ### What the checker asks of types -/
def szIs (P : Program) (t : TypeId) (n : Nat) : Bool := match P.info? t with
  | some i => i.size == n
  | none => false
def bytesIs (P : Program) (t : TypeId) (n : Nat) : Bool := match P.info? t with
  | some i => i.bytes == n
  | none => false
def aggIs (P : Program) (t : TypeId) (b : Bool) : Bool := match P.underlying t with
  | some (.struct _) => b
  | some (.array _ _) => b
  | some _ => !b
  | none => false
def zeroIs (P : Program) (t : TypeId) (z : List D) : Bool := match P.info? t with
  | some i => match i.zero with
    | some v => okDs v.cells.toList z && v.cells.size == i.size
    | none => false
  | none => false
section
variable {P : Program} {κ : K} {w : World}
theorem szIs_spec {t : TypeId} {n : Nat} (h : szIs P t n = true) : ∃ i, P.info? t = some i ∧ i.size = n := by
  unfold szIs at h
  split at h
  · rename_i i hi; exact ⟨i, hi, by simpa using h⟩
  · cases h
theorem run_sizeOf {t : TypeId} {n : Nat} (h : szIs P t n = true) : (sizeOf t).run P w = .ok n w := by
  obtain ⟨i, hi, rfl⟩ := szIs_spec h
  simp [sizeOf, typeInfo, hi]
theorem run_isAgg {t : TypeId} {b : Bool} (h : aggIs P t b = true) : (isAgg t).run P w = .ok b w := by
  unfold aggIs at h
  unfold isAgg
  cases hu : P.underlying t with
  | none => rw [hu] at h; cases h
  | some d =>
    rw [hu] at h
    simp only [Sem.run_bind, run_underlying hu, Result.andThen_ok]
    cases d <;> simp at h <;> subst h <;> rfl
theorem zeroIs_spec {t : TypeId} {z : List D} (h : zeroIs P t z = true) : ∃ i v, P.info? t = some i ∧ i.zero = some v ∧ okDs v.cells.toList z = true ∧ v.cells.size = i.size := by
  unfold zeroIs at h
  split at h
  · rename_i i hi
    split at h
    · rename_i v hv
      simp only [Bool.and_eq_true, beq_iff_eq] at h
      exact ⟨i, v, hi, hv, h.1, h.2⟩
    · cases h
  · cases h

/-! ### Cells of values -/
theorem RepC.cells {x : V} {v : Value} (h : RepC κ x v) : v.cells = #[v] ∧ x.cs = [x] ∧ v.oneCell' = true := by
  cases x with
  | d d =>
    simp only [RepC] at h
    cases d <;> simp only [RepD] at h
    case sl => obtain ⟨A, cap, rfl, _⟩ := h; exact ⟨rfl, rfl, rfl⟩
    case ifc => obtain ⟨l, rfl, _⟩ := h; exact ⟨rfl, rfl, rfl⟩
    all_goals subst h; exact ⟨rfl, rfl, rfl⟩
  | own sz n nz cs t =>
    simp only [RepC, RepD] at h
    obtain ⟨⟨A, cap, rfl, _⟩, _⟩ := h
    exact ⟨rfl, rfl, rfl⟩
  | ptr => obtain ⟨b, _, rfl⟩ := h; exact ⟨rfl, rfl, rfl⟩
  | ep => obtain ⟨A, rfl, _⟩ := h; exact ⟨rfl, rfl, rfl⟩
  | rsl => obtain ⟨b, o, _, rfl, _⟩ := h; exact ⟨rfl, rfl, rfl⟩
  | map => obtain ⟨b, _, rfl⟩ := h; exact ⟨rfl, rfl, rfl⟩
  | agg => exact h.elim
  | tup => exact h.elim
  | un => exact h.elim
theorem Rep1.toC : ∀ {x : V} {v : Value}, Rep1 κ x v → x ≠ .un → (∀ cs, x ≠ .agg cs) → RepC κ x v
  | .d _, _, h, _, _ => h
  | .own .., _, h, _, _ => h
  | .ptr .., _, h, _, _ => h
  | .ep .., _, h, _, _ => h
  | .rsl .., _, h, _, _ => h
  | .map .., _, h, _, _ => h
  | .agg cs, _, _, _, h => absurd rfl (h cs)
  | .tup .., _, h, _, _ => h.elim
  | .un, _, _, h, _ => absurd rfl h
theorem Rep.to1 : ∀ {x : V} {v : Value}, Rep κ x v → (∀ vs, x ≠ .tup vs) → Rep1 κ x v
  | .d _, _, h, _ => h
  | .own .., _, h, _ => h
  | .ptr .., _, h, _ => h
  | .ep .., _, h, _ => h
  | .rsl .., _, h, _ => h
  | .map .., _, h, _ => h
  | .agg .., _, h, _ => h
  | .un, _, h, _ => h
  | .tup vs, _, _, h => absurd rfl (h vs)
theorem Rep1.cells {x : V} {v : Value} (h : Rep1 κ x v) (hx : x ≠ .un) : All2 (RepC κ) x.cs v.cells.toList := by
  cases x with
  | agg cs => obtain ⟨l, rfl, h⟩ := h; simpa [V.cs, Value.cells] using h
  | un => exact absurd rfl hx
  | tup => exact h.elim
  | _ =>
    replace h := Rep1.toC h hx (by intro cs; simp)
    obtain ⟨h1, h2, _⟩ := RepC.cells h
    rw [h1, h2]
    exact .cons h .nil
theorem All2.one {cs : List V} {l : List Value} (h : All2 (RepC κ) cs l) : ∀ v ∈ l, v.oneCell' = true := by
  induction h with
  | nil => intro v hv; cases hv
  | cons h _ ih =>
    intro v hv
    cases hv with
    | head => exact (RepC.cells h).2.2
    | tail _ hv => exact ih v hv
theorem toD_rep {x : V} {d : D} (h : toD x = some d) {v : Value} (hr : RepC κ x v) : RepD κ.L κ.imm d v := by
  cases x <;> simp only [toD, Option.some.injEq] at h <;> try cases h
  · exact hr
  · exact hr.1
theorem toDs_rep : ∀ {xs : List V} {ds : List D} (h : toDs xs = some ds) {l : List Value}, All2 (RepC κ) xs l → All2 (RepD κ.L κ.imm) ds l
  | [], ds, h, l, ha => by
    simp only [toDs, Option.some.injEq] at h
    subst h
    cases ha
    exact .nil
  | x :: xs, ds, h, l, ha => by
    simp only [toDs] at h
    split at h
    · rename_i d hd
      split at h
      · rename_i r hr
        simp only [Option.some.injEq] at h
        subst h
        cases ha with
        | cons h1 h2 => exact .cons (toD_rep hd h1) (toDs_rep hr h2)
      · cases h
    · cases h
theorem ofDs_rep {ds : List D} {l : List Value} (h : All2 (RepD κ.L κ.imm) ds l) : All2 (RepC κ) (ofDs ds) l := by
  induction h with
  | nil => exact .nil
  | cons h _ ih => exact .cons (x := V.d _) h ih

/-! ### A part of a struct or an array -/
theorem mkV_rep {agg : Bool} {cs : List V} {z : V} (h : mkV agg cs = some z) {l : List Value} (ha : All2 (RepC κ) cs l) : Rep1 κ z (if agg then .agg l.toArray else l.headD undef) := by
  unfold mkV at h
  split at h
  · rename_i hagg
    simp only [Option.some.injEq] at h
    subst h
    subst hagg
    exact ⟨l, rfl, ha⟩
  · rename_i hagg
    split at h
    · simp only [Option.some.injEq] at h
      subst h
      cases ha with
      | cons h1 h2 =>
        cases h2
        simp only [hagg, if_false, List.headD_cons]
        simpa using Rep1.ofC h1
    · cases h
theorem mkV_len {agg : Bool} {cs : List V} {z : V} (h : mkV agg cs = some z) : agg = false → cs.length = 1 := by
  unfold mkV at h
  rintro rfl
  simp only [Bool.false_eq_true, if_false] at h
  split at h
  · rfl
  · cases h
theorem part_sound {t : TypeId} {off size : Nat} {agg : Bool} {cs : List V} {l : List Value} {z : V} (hs : szIs P t size = true) (hg : aggIs P t agg = true) (ha : All2 (RepC κ) cs l) (hl : off + size ≤ cs.length)
    (h : mkV agg ((cs.drop off).take size) = some z) : ∃ v, (part t l.toArray off).run P w = .ok v w ∧ Rep1 κ z v := by
  have hr := mkV_rep h ((ha.drop off).take size)
  refine ⟨_, ?_, hr⟩
  unfold part
  simp only [Sem.run_bind, run_isAgg hg, Result.andThen_ok]
  cases agg with
  | true =>
    simp only [if_true, Sem.run_bind, run_sizeOf hs, Result.andThen_ok, Sem.run_pure]
    congr 2
    simp [List.extract_toArray, List.take_drop, Nat.add_comm]
  | false =>
    have h1 := mkV_len h rfl
    have hlen := ha.length
    simp only [List.length_take, List.length_drop] at h1
    have hsz : 0 < size := by omega
    obtain ⟨v, hv⟩ : ∃ v, l[off]? = some v := ⟨l[off]'(by omega), List.getElem?_eq_getElem (by omega)⟩
    have hhd : ((l.drop off).take size).headD undef = v := by
      rw [List.headD_eq_head?_getD, List.head?_take, if_neg (by omega), List.head?_drop, hv]
      rfl
    rw [hhd]
    simp [hv]
end
end Go.Sh
