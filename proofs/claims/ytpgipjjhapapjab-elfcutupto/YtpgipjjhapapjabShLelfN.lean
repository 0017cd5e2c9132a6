/- Sections read, whole. -/
import Derived.Test.YtpgipjjhapapjabShLelfM
set_option linter.unusedVariables false
set_option linter.unusedSimpArgs false
namespace Go.Sh
theorem fldsM_ok {L : List UInt8} {t n : Nat} : ∀ {m k a : Nat} {ats : List Nat}, fldsM L t n m k a = (none, ats) → ∀ j b, ats[j]? = some b → badEnt t (k + j) b (decide (k + j + 1 = n)) (entAt L t (k + j)) = none
  | 0, k, a, ats, h => by
    simp only [fldsM, Prod.mk.injEq, true_and] at h
    subst h
    exact fun j b hb => by simp at hb
  | m + 1, k, a, ats, h => by
    simp only [fldsM] at h
    split at h
    · cases h
    · rename_i hbe
      simp only [Prod.mk.injEq] at h
      obtain ⟨h1, h2⟩ := h
      have q2 := fldsM_ok (m := m) (k := k + 1) (a := nxtA k a (entAt L t k)) (ats := (fldsM L t n m (k + 1) (nxtA k a (entAt L t k))).2) (by rw [← h1])
      rw [← h2]
      intro j b hb
      cases j with
      | zero =>
        obtain rfl : a = b := by simpa using hb
        exact hbe
      | succ j =>
        have := q2 j b (by simpa using hb)
        rw [show k + (j + 1) = k + 1 + j by omega]
        exact this
theorem fv_lt {L : List UInt8} {t k i w : Nat} (h : entW[i]? = some w) : fv (entAt L t k) i < 256 ^ w := by
  have h' := toldF_get (L := (L.take (t + 64 * k + 64)).drop (t + 64 * k)) h
  unfold fv entAt
  rw [List.getD_eq_getElem?_getD, h']
  exact Nat.lt_of_lt_of_le (getN_lt _) (Nat.pow_le_pow_right (by decide) (by rw [List.length_take]; omega))
/-- Numbers that fit. -/
theorem fv_fit {L : List UInt8} {t k a : Nat} {fin : Bool} (h : badEnt t k a fin (entAt L t k) = none) (hk : 0 < k) {i : Nat} (hi : i = 1 ∨ i = 2 ∨ i = 6 ∨ i = 7 ∨ i = 8 ∨ i = 9) : fv (entAt L t k) i < 2 ^ 63 := by
  have h1 := fv_lt (L := L) (t := t) (k := k) (i := 1) (w := 4) rfl
  have h6 := fv_lt (L := L) (t := t) (k := k) (i := 6) (w := 4) rfl
  have h7 := fv_lt (L := L) (t := t) (k := k) (i := 7) (w := 4) rfl
  have key : ∀ i, i = 2 ∨ i = 8 ∨ i = 9 → fv (entAt L t k) i < 2 ^ 63 := by
    intro i hi
    have hb := badEnt_none h (i := i) (by omega)
    simp only [badFld, Bool.or_eq_false_iff] at hb
    have hw := hb.1.1
    have hk' : ¬ k = 0 := by omega
    simp [wrongM, hk', hi] at hw
    omega
  rcases hi with rfl | hi | rfl | rfl | hi | hi
  · omega
  · exact key i (.inl hi)
  · omega
  · omega
  · exact key i (.inr (.inl hi))
  · exact key i (.inr (.inr hi))
def secR (L : List UInt8) (t : Nat) (ats : List Nat) (out : List Nm) (k : Nat) : Sec :=
  ⟨out.getD (k - 1) [], fv (entAt L t k) 1, fv (entAt L t k) 2, fv (entAt L t k) 6, fv (entAt L t k) 7, fv (entAt L t k) 8, fv (entAt L t k) 9, dataAt L t ats k, true⟩
def secsR (L : List UInt8) (t : Nat) (ats : List Nat) (out : List Nm) (m : Nat) : List Sec := (List.range m).map fun i => secR L t ats out (i + 1)
def tabP (L : List UInt8) : Nat := (roomI L).toNat
def readF (L : List UInt8) : (Nat × Int) ⊕ List Sec :=
  if L.length < 64 then .inl (L.length, 90) else match headP L with
    | some i => .inl (i, 91)
    | none => match fldsM L (tabP L) (hv L 14) (hv L 14) 0 64 with
      | (some q, _) => .inl (q, 92)
      | (none, ats) => match padM L (tabP L) ats (hv L 14 - 1) 1 with
        | some q => .inl (q, 93)
        | none => match namesR L (tabP L) (hv L 14) ats with
          | .inl b => .inl (b, 92)
          | .inr out => .inr (secsR L (tabP L) ats out (hv L 14 - 2))
theorem headP_none {L : List UInt8} (h : headP L = none) : 2 ≤ hv L 14 ∧ hv L 14 ≤ 18 ∧ tabP L + 64 * hv L 14 = L.length ∧ 64 ≤ tabP L ∧ tabP L % 8 = 0 ∧ roomI L = (tabP L : Int) ∧ hv L 8 = tabP L ∧ hv L 15 = hv L 14 - 1 ∧ ∀ i, i < 60 → (i < 40 ∨ 48 ≤ i) → L.getD i 0 = wantB.getD i 0 := by
  have hb : ∀ i, i < 64 → headBad L i = false := fun i hi => by
    unfold headP at h
    rw [List.find?_eq_none] at h
    simpa using h i (List.mem_range.2 hi)
  have h40 := hb 40 (by decide)
  have h60 := hb 60 (by decide)
  have h62 := hb 62 (by decide)
  simp [headBad] at h40 h60 h62
  have hr : roomI L = (L.length : Int) - 64 * (hv L 14 : Int) := rfl
  have ht : (tabP L : Int) = roomI L := by unfold tabP; omega
  refine ⟨by omega, by omega, by omega, by omega, by omega, by omega, by omega, by omega, fun i hi ho => ?_⟩
  have := hb i (by omega)
  simp only [headBad, Bool.or_eq_false_iff] at this
  have h4 := this.2
  simp at h4
  rw [List.getD_eq_getElem?_getD, List.getD_eq_getElem?_getD]
  refine h4 ?_ ?_
  · omega
  · omega
end Go.Sh
