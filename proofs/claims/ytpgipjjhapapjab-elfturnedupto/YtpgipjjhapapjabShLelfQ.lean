/- Files of sections, plain: what is taken is what is written. -/
import Derived.Test.YtpgipjjhapapjabShLelfP
set_option linter.unusedVariables false
set_option linter.unusedSimpArgs false
namespace Go.Sh
theorem slice_eq {A B : List UInt8} {o w : Nat} (hA : o + w ≤ A.length) (hB : o + w ≤ B.length) (h : ∀ j, o ≤ j → j < o + w → A.getD j 0 = B.getD j 0) : (A.drop o).take w = (B.drop o).take w := by
  refine List.ext_getElem? fun i => ?_
  rw [List.getElem?_take, List.getElem?_take]
  split
  · rename_i hi
    rw [List.getElem?_drop, List.getElem?_drop]
    have := h (o + i) (by omega) (by omega)
    rw [List.getD_eq_getElem?_getD, List.getD_eq_getElem?_getD, List.getElem?_eq_getElem (show o + i < A.length by omega), List.getElem?_eq_getElem (show o + i < B.length by omega)] at this
    rw [List.getElem?_eq_getElem (show o + i < A.length by omega), List.getElem?_eq_getElem (show o + i < B.length by omega)]
    exact congrArg some this
  · rfl
theorem hdT_want : hdT wantB = hdrF 0 2 := by
  unfold hdT
  rw [List.take_of_length_le (by rw [wantB_len]; exact Nat.le_refl _)]
  have := told_laid (hdrF 0 2) [] (by decide)
  rwa [List.append_nil] at this
/-- The header's fields. -/
theorem hdT_eq {L : List UInt8} {t n : Nat} (hL : 64 ≤ L.length) (h : ∀ i, i < 60 → (i < 40 ∨ 48 ≤ i) → L.getD i 0 = wantB.getD i 0) (h8 : hv L 8 = t) (h14 : hv L 14 = n) (h15 : hv L 15 = n - 1) : hdT L = hdrF t n := by
  obtain ⟨B, hB⟩ : ∃ B, B = wantB := ⟨_, rfl⟩
  have hBl : B.length = 64 := by rw [hB]; exact wantB_len
  have hBt : hdT B = hdrF 0 2 := by rw [hB]; exact hdT_want
  rw [← hB] at h
  clear hB
  have hg : ∀ i w o, hdW[i]? = some w → (hdW.take i).sum = o → (o + w ≤ 40 ∨ (48 ≤ o ∧ o + w ≤ 60)) → (hdT L)[i]? = (hdrF 0 2)[i]? := fun i w o hw ho hr => by
    have hsl : ((L.take 64).drop o).take w = ((B.take 64).drop o).take w := by
      refine slice_eq (by rw [List.length_take]; omega) (by rw [List.length_take, hBl]; omega) fun j h1 h2 => ?_
      rw [List.getD_eq_getElem?_getD, List.getD_eq_getElem?_getD, List.getElem?_take, List.getElem?_take, if_pos (by omega), if_pos (by omega), ← List.getD_eq_getElem?_getD, ← List.getD_eq_getElem?_getD]
      exact h j (by omega) (by omega)
    rw [← hBt, hdT_get L i w hw, hdT_get B i w hw, ho, hsl]
  have hsp : ∀ i w x, hdW[i]? = some w → hv L i = x → (hdT L)[i]? = some (w, x) := fun i w x hw hx => by
    have h1 := hdT_get L i w hw
    have h2 : hv L i = getN (((L.take 64).drop (hdW.take i).sum).take w) := by
      unfold hv
      rw [List.getD_eq_getElem?_getD, h1, Option.getD_some]
    rw [h1, ← h2, hx]
  refine List.ext_getElem? fun i => ?_
  rcases Nat.lt_or_ge i 16 with hi | hi
  · have c : i = 0 ∨ i = 1 ∨ i = 2 ∨ i = 3 ∨ i = 4 ∨ i = 5 ∨ i = 6 ∨ i = 7 ∨ i = 8 ∨ i = 9 ∨ i = 10 ∨ i = 11 ∨ i = 12 ∨ i = 13 ∨ i = 14 ∨ i = 15 := by omega
    rcases c with rfl | rfl | rfl | rfl | rfl | rfl | rfl | rfl | rfl | rfl | rfl | rfl | rfl | rfl | rfl | rfl
    · exact hg 0 4 0 rfl rfl (by decide)
    · exact hg 1 4 4 rfl rfl (by decide)
    · exact hg 2 8 8 rfl rfl (by decide)
    · exact hg 3 2 16 rfl rfl (by decide)
    · exact hg 4 2 18 rfl rfl (by decide)
    · exact hg 5 4 20 rfl rfl (by decide)
    · exact hg 6 8 24 rfl rfl (by decide)
    · exact hg 7 8 32 rfl rfl (by decide)
    · exact hsp 8 8 t rfl h8
    · exact hg 9 4 48 rfl rfl (by decide)
    · exact hg 10 2 52 rfl rfl (by decide)
    · exact hg 11 2 54 rfl rfl (by decide)
    · exact hg 12 2 56 rfl rfl (by decide)
    · exact hg 13 2 58 rfl rfl (by decide)
    · exact hsp 14 2 n rfl h14
    · exact hsp 15 2 (n - 1) rfl h15
  · rw [List.getElem?_eq_none (by rw [hdT_len]; exact hi), List.getElem?_eq_none (by exact hi)]
theorem head_bytes_eq {L : List UInt8} {t n : Nat} (hL : 64 ≤ L.length) (h : hdT L = hdrF t n) : L.take 64 = laidF (hdrF t n) := by
  rw [← h]
  have hs : hdW.sum = 64 := rfl
  have := laid_told hdW (L.take 64) (by rw [hs, List.length_take]; omega)
  rw [hs, List.take_take, Nat.min_self] at this
  exact this.symm
/-- The table's bytes. -/
theorem ent_bytes {L : List UInt8} {t k : Nat} (h : t + 64 * k + 64 ≤ L.length) : laidF (entAt L t k) = (L.drop (t + 64 * k)).take 64 := by
  have hs : entW.sum = 64 := rfl
  have e : ((L.take (t + 64 * k + 64)).drop (t + 64 * k)) = (L.drop (t + 64 * k)).take 64 := by rw [List.drop_take]; congr 1; omega
  have := laid_told entW ((L.take (t + 64 * k + 64)).drop (t + 64 * k)) (by rw [hs, List.length_drop, List.length_take]; omega)
  rw [hs] at this
  unfold entAt
  rw [this, e, List.take_take, Nat.min_self]
theorem tab_bytes {L : List UInt8} {t n : Nat} (h : t + 64 * n = L.length) : ∀ k, k ≤ n → (L.drop t).take (64 * k) = ((List.range k).map fun j => laidF (entAt L t j)).flatten
  | 0, _ => by simp
  | k + 1, hk => by
    rw [List.range_succ, List.map_append, List.flatten_append, ← tab_bytes h k (by omega)]
    simp only [List.map_cons, List.map_nil, List.flatten_cons, List.flatten_nil, List.append_nil]
    rw [ent_bytes (by omega), Nat.mul_succ, List.take_add, List.drop_drop]
/-- Where the data stand. -/
theorem fldsM_step {L : List UInt8} {t n : Nat} : ∀ {m k a : Nat} {ats : List Nat}, fldsM L t n m k a = (none, ats) → (0 < m → ats[0]? = some a) ∧ ∀ j b c, ats[j]? = some b → ats[j + 1]? = some c → c = nxtA (k + j) b (entAt L t (k + j))
  | 0, k, a, ats, h => by
    simp only [fldsM, Prod.mk.injEq, true_and] at h
    subst h
    exact ⟨fun h => absurd h (Nat.lt_irrefl 0), fun j b c hb => by simp at hb⟩
  | m + 1, k, a, ats, h => by
    simp only [fldsM] at h
    split at h
    · cases h
    · simp only [Prod.mk.injEq] at h
      obtain ⟨h1, h2⟩ := h
      obtain ⟨q1, q2⟩ := fldsM_step (m := m) (k := k + 1) (a := nxtA k a (entAt L t k)) (ats := (fldsM L t n m (k + 1) (nxtA k a (entAt L t k))).2) (by rw [← h1])
      rw [← h2]
      refine ⟨fun _ => rfl, fun j b c hb hc => ?_⟩
      cases j with
      | zero =>
        obtain rfl : a = b := by simpa using hb
        have hc' : (fldsM L t n m (k + 1) (nxtA k a (entAt L t k))).2[0]? = some c := by simpa using hc
        cases m with
        | zero => simp [fldsM] at hc'
        | succ m =>
          rw [q1 (by omega)] at hc'
          exact (Option.some.inj hc').symm
      | succ j =>
        have := q2 j b c (by simpa using hb) (by simpa using hc)
        rw [show k + (j + 1) = k + 1 + j by omega]
        exact this
end Go.Sh
