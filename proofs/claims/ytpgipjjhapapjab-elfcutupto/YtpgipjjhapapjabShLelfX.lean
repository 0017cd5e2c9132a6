/- Files of sections, plain: the data of a file that was written. -/
import Derived.Test.YtpgipjjhapapjabShLelfW
set_option linter.unusedVariables false
set_option linter.unusedSimpArgs false
namespace Go.Sh
theorem padIn_zero {L : List UInt8} : ∀ {m e : Nat}, (∀ i, e ≤ i → i < e + m → L.getD i 0 = 0) → padIn L m e = none
  | 0, e, _ => rfl
  | m + 1, e, h => by
    have h0 := h e (Nat.le_refl _) (by omega)
    simp only [padIn, h0, ne_eq, not_true, if_false]
    exact padIn_zero fun i h1 h2 => h i (by omega) (by omega)
theorem file_slice {ss : List Sec} {k : Nat} {s : Sec} (hk : (allOf ss)[k]? = some s) : ((fileB ss).drop (offs ((allOf ss).take k))).take (r8 s.data.length) = padB s := by
  have h1 : (fileB ss).drop 64 = bodyB (allOf ss) ++ (List.replicate 64 0 ++ entB (plOf ss) 64 (allOf ss)) := by
    unfold fileB
    rw [List.append_assoc, List.drop_left' (hdr_len _ _)]
  have hlt := (List.getElem?_eq_some_iff.1 hk).1
  have h2 : bodyB (allOf ss) = bodyB ((allOf ss).take k) ++ (padB s ++ bodyB ((allOf ss).drop (k + 1))) := by
    conv => lhs; rw [← List.take_append_drop k (allOf ss), List.drop_eq_getElem_cons hlt, (List.getElem?_eq_some_iff.1 hk).2]
    simp [bodyB]
  unfold offs
  rw [← List.drop_drop, h1, h2, List.append_assoc, List.drop_left' (bodyB_len _), List.append_assoc, List.take_left' (padB_len s)]
theorem file_data {ss : List Sec} {k : Nat} {s : Sec} (hk : (allOf ss)[k]? = some s) : ((fileB ss).take (offs ((allOf ss).take k) + s.data.length)).drop (offs ((allOf ss).take k)) = s.data ∧ padAt (fileB ss) (offs ((allOf ss).take k) + s.data.length) = none := by
  have h := file_slice hk
  have hr := r8_ge s.data.length
  have hm := offs_mod ((allOf ss).take k)
  constructor
  · rw [List.drop_take, show offs ((allOf ss).take k) + s.data.length - offs ((allOf ss).take k) = s.data.length by omega]
    have := congrArg (List.take s.data.length) h
    rw [List.take_take, Nat.min_eq_left hr] at this
    rw [this, padB, List.take_left' rfl]
  · unfold padAt
    rw [r8_add hm]
    refine padIn_zero fun i h1 h2 => ?_
    have h3 := congrArg (fun l => l[i - offs ((allOf ss).take k)]?) h
    rw [List.getElem?_take, if_pos (by omega), List.getElem?_drop, show offs ((allOf ss).take k) + (i - offs ((allOf ss).take k)) = i by omega, padB, List.getElem?_append_right (by omega), List.getElem?_replicate, if_pos (by omega)] at h3
    rw [List.getD_eq_getElem?_getD, h3]
    rfl
def atsOf (ss : List Sec) : List Nat := (List.range (ss.length + 2)).map fun j => aOf ss (0 + j)
theorem atsOf_get {ss : List Sec} {k : Nat} (hk : k < ss.length + 2) : (atsOf ss).getD k 0 = aOf ss k := by
  rw [List.getD_eq_getElem?_getD]
  simp [atsOf, hk]
theorem Wr.fv5 {ss : List Sec} (h : Wr ss) {k : Nat} {s : Sec} (hk : (allOf ss)[k]? = some s) : fv (entAt (fileB ss) (offs (allOf ss)) (k + 1)) 5 = s.data.length := by rw [h.ent hk]; rfl
theorem Wr.data {ss : List Sec} (h : Wr ss) {k : Nat} {s : Sec} (hk : (allOf ss)[k]? = some s) : dataAt (fileB ss) (offs (allOf ss)) (atsOf ss) (k + 1) = s.data := by
  have hlt := (List.getElem?_eq_some_iff.1 hk).1
  rw [allOf_len] at hlt
  unfold dataAt
  rw [h.fv5 hk, atsOf_get (by omega)]
  exact (file_data hk).1
theorem Wr.pad {ss : List Sec} (h : Wr ss) : ∀ m k, 1 ≤ k → k + m ≤ ss.length + 2 → padM (fileB ss) (offs (allOf ss)) (atsOf ss) m k = none
  | 0, _, _, _ => rfl
  | m + 1, k + 1, hk, hm => by
    obtain ⟨s, hs⟩ : ∃ s, (allOf ss)[k]? = some s := ⟨_, List.getElem?_eq_getElem (by rw [allOf_len]; omega)⟩
    have := (file_data hs).2
    have e : aOf ss (k + 1) = offs ((allOf ss).take k) := rfl
    simp only [padM, h.fv5 hs, atsOf_get (show k + 1 < ss.length + 2 by omega), e, this]
    exact h.pad m (k + 1 + 1) (by omega) (by omega)
end Go.Sh
