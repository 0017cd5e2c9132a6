/- Files of sections, plain: the data and what stands between them. -/
import Derived.Test.YtpgipjjhapapjabShLelfQ
set_option linter.unusedVariables false
set_option linter.unusedSimpArgs false
namespace Go.Sh
theorem padIn_none {L : List UInt8} : ∀ {m e : Nat}, padIn L m e = none → ∀ i, e ≤ i → i < e + m → L.getD i 0 = 0
  | 0, e, _, i, h1, h2 => by omega
  | m + 1, e, h, i, h1, h2 => by
    simp only [padIn] at h
    split at h
    · cases h
    · rename_i hz
      rcases Nat.lt_or_ge e i with hi | hi
      · exact padIn_none h i hi (by omega)
      · obtain rfl : i = e := by omega
        simpa using hz
theorem padM_none {L : List UInt8} {t : Nat} {ats : List Nat} : ∀ {m k : Nat}, padM L t ats m k = none → ∀ j, k ≤ j → j < k + m → padAt L (ats.getD j 0 + fv (entAt L t j) 5) = none
  | 0, k, _, j, h1, h2 => by omega
  | m + 1, k, h, j, h1, h2 => by
    simp only [padM] at h
    split at h
    · cases h
    · rename_i hz
      rcases Nat.lt_or_ge k j with hi | hi
      · exact padM_none h j hi (by omega)
      · obtain rfl : j = k := by omega
        exact hz
theorem pad_sec {L : List UInt8} {a s : Nat} (hb : r8 (a + s) ≤ L.length) (ha : a % 8 = 0) (hp : padAt L (a + s) = none) : (L.drop a).take (r8 s) = ((L.take (a + s)).drop a) ++ List.replicate (r8 s - s) 0 := by
  have hg := r8_ge s
  have hr : r8 (a + s) = a + r8 s := r8_add ha
  rw [show r8 s = s + (r8 s - s) by omega, List.take_add, List.drop_drop]
  congr 1
  · rw [List.drop_take]
    congr 1
    omega
  · rw [show s + (r8 s - s) - s = r8 s - s by omega]
    rw [List.eq_replicate_iff]
    refine ⟨by rw [List.length_take, List.length_drop]; omega, fun b hb' => ?_⟩
    obtain ⟨i, hi⟩ := List.mem_iff_getElem?.1 hb'
    rw [List.getElem?_take] at hi
    split at hi
    · rename_i hlt
      rw [List.getElem?_drop] at hi
      have := padIn_none hp (a + s + i) (by omega) (by rw [hr]; omega)
      rw [List.getD_eq_getElem?_getD, hi] at this
      exact this
    · cases hi
/-- The data of the entries, one behind the other. -/
theorem body_bytes {L : List UInt8} {t n : Nat} {ats : List Nat} {out : List Nm} (hf : fldsM L t n n 0 64 = (none, ats)) (hp : padM L t ats (n - 1) 1 = none) (hn : 2 ≤ n) (ht : t % 8 = 0) (ht64 : 64 ≤ t) (htL : t ≤ L.length) :
    ats.length = n ∧ (∀ k, 1 ≤ k → k < n → ats.getD k 0 = 64 + sumR (secsR L t ats out (k - 1))) ∧ ∀ m, m ≤ n - 1 → 64 + sumR (secsR L t ats out m) ≤ t ∧ bodyB (secsR L t ats out m) = (L.drop 64).take (sumR (secsR L t ats out m)) := by
  obtain ⟨hal, hft⟩ := fldsM_fit ht hf ht64 rfl
  obtain ⟨hs0, hst⟩ := fldsM_step hf
  have h0 := hs0 (by omega)
  have hd : ∀ k, k < n → ats[k]? = some (ats.getD k 0) := fun k hk => by
    rw [List.getD_eq_getElem?_getD, List.getElem?_eq_getElem (by omega)]
    rfl
  have hlen : ∀ k, 1 ≤ k → k < n → (secR L t ats out k).data.length = fv (entAt L t k) 5 ∧ ats.getD k 0 % 8 = 0 ∧ ats.getD k 0 + fv (entAt L t k) 5 ≤ t := fun k hk1 hk => by
    obtain ⟨q1, q2, q3⟩ := hft k _ (hd k hk)
    rw [Nat.zero_add] at q3
    have q4 := q3 (by omega)
    refine ⟨?_, q2, q4⟩
    show (dataAt L t ats k).length = _
    unfold dataAt
    rw [List.length_drop, List.length_take]
    omega
  have hat : ∀ k, 1 ≤ k → k < n → ats.getD k 0 = 64 + sumR (secsR L t ats out (k - 1)) := by
    intro k
    induction k with
    | zero => intro h; omega
    | succ k ih =>
      intro _ hk
      have hs := hst k _ _ (hd k (by omega)) (hd (k + 1) hk)
      rw [Nat.zero_add] at hs
      rcases Nat.eq_zero_or_pos k with rfl | hk0
      · rw [hs]
        have : ats.getD 0 0 = 64 := by rw [List.getD_eq_getElem?_getD, h0]; rfl
        rw [this]
        rfl
      · have ih' := ih hk0 (by omega)
        obtain ⟨l1, l2, l3⟩ := hlen k hk0 (by omega)
        rw [hs, nxtA, if_neg (by omega), r8_add l2]
        have e : sumR (secsR L t ats out (k + 1 - 1)) = sumR (secsR L t ats out (k - 1)) + r8 (fv (entAt L t k) 5) := by
          rw [show k + 1 - 1 = k - 1 + 1 by omega, secsR_succ, sumR_snoc, show k - 1 + 1 = k by omega, l1]
        rw [e]
        omega
  refine ⟨hal, hat, fun m => ?_⟩
  induction m with
  | zero => intro _; exact ⟨by simpa [secsR, sumR] using ht64, by simp [secsR, bodyB, sumR]⟩
  | succ m ih =>
    intro hm
    obtain ⟨i1, i2⟩ := ih (by omega)
    obtain ⟨l1, l2, l3⟩ := hlen (m + 1) (by omega) (by omega)
    have ha := hat (m + 1) (by omega) (by omega)
    rw [Nat.add_sub_cancel] at ha
    have e : sumR (secsR L t ats out (m + 1)) = sumR (secsR L t ats out m) + r8 (fv (entAt L t (m + 1)) 5) := by rw [secsR_succ, sumR_snoc, l1]
    have hle : r8 (ats.getD (m + 1) 0 + fv (entAt L t (m + 1)) 5) ≤ t := by unfold r8; omega
    have hpm := padM_none hp (m + 1) (by omega) (by omega)
    have hps := pad_sec (L := L) (a := ats.getD (m + 1) 0) (s := fv (entAt L t (m + 1)) 5) (by omega) l2 hpm
    rw [r8_add l2] at hle
    refine ⟨by rw [e]; omega, ?_⟩
    rw [secsR_succ, bodyB_snoc, i2, ← secsR_succ, e, List.take_add, List.drop_drop, ← ha, hps, padB, l1]
    rfl
end Go.Sh
