/- Files of sections, plain: cut files, longer ones; the entries of a file. -/
import Derived.Test.YtpgipjjhapapjabShLelfU
set_option linter.unusedVariables false
set_option linter.unusedSimpArgs false
namespace Go.Sh
/-- F4: a file's header with other bytes than its length allows. -/
theorem readF_len {L : List UInt8} {t n : Nat} (h : L.take 64 = laidF (hdrF t n)) (hL : 64 ≤ L.length) (ht : t < 2 ^ 62) (hn : n ≤ 1000) (hne : L.length ≠ t + 64 * n) : readF L = .inl (40, 91) := by
  have hd : hdT L = hdrF t n := by
    unfold hdT
    rw [h]
    have := told_laid (hdrF t n) [] (by
      intro f hf
      simp only [hdrF, List.mem_cons, List.not_mem_nil, or_false] at hf
      rcases hf with rfl | rfl | rfl | rfl | rfl | rfl | rfl | rfl | rfl | rfl | rfl | rfl | rfl | rfl | rfl | rfl <;> (simp only; omega))
    rw [List.append_nil] at this
    exact this
  have h8 : hv L 8 = t := by unfold hv; rw [hd]; rfl
  have h14 : hv L 14 = n := by unfold hv; rw [hd]; rfl
  have hr : roomI L = (L.length : Int) - 64 * (n : Int) := by unfold roomI; rw [h14]
  have hP : headP L = some 40 := by
    unfold headP
    refine find_range (by decide) (fun j hj => ?_) ?_
    · have hby : L.getD j 0 = wantB.getD j 0 := by
        rw [← hdr_same t n (i := j) (by omega) (.inl hj), ← h]
        rw [List.getD_eq_getElem?_getD, List.getD_eq_getElem?_getD, List.getElem?_take, if_pos (by omega)]
      unfold headBad
      rw [hby]
      have n40 : ¬ j = 40 := by omega
      have n60 : ¬ j = 60 := by omega
      have n62 : ¬ j = 62 := by omega
      simp [n40, n60, n62]
    · unfold headBad
      rw [h8, hr]
      have : ¬ (t : Int) = (L.length : Int) - 64 * (n : Int) := by omega
      simp [this]
  unfold readF
  rw [if_neg (by omega), hP]
theorem readF_more {ss : List Sec} {more : List UInt8} (h16 : ss.length ≤ 16) (hsz : offs (allOf ss) < 2 ^ 62) (hm : more ≠ []) : readF (fileB ss ++ more) = .inl (40, 91) := by
  have hl := file_len (ss := ss)
  have hm' : 0 < more.length := List.length_pos_iff.2 hm
  refine readF_len (t := offs (allOf ss)) (n := ss.length + 2) ?_ (by rw [List.length_append]; omega) hsz (by omega) (by rw [List.length_append]; omega)
  rw [List.take_append_of_le_length (by omega), file_head]
theorem readF_less {ss : List Sec} {keep : Nat} (h16 : ss.length ≤ 16) (hsz : offs (allOf ss) < 2 ^ 62) (hk : keep < (fileB ss).length) : ∃ q, readF ((fileB ss).take keep) = .inl (q, 90) ∨ readF ((fileB ss).take keep) = .inl (q, 91) := by
  have hl := file_len (ss := ss)
  rcases Nat.lt_or_ge keep 64 with h | h
  · refine ⟨((fileB ss).take keep).length, .inl ?_⟩
    unfold readF
    rw [if_pos (by rw [List.length_take]; omega)]
  · refine ⟨40, .inr (readF_len (t := offs (allOf ss)) (n := ss.length + 2) ?_ (by rw [List.length_take]; omega) hsz (by omega) (by rw [List.length_take]; omega))⟩
    rw [List.take_take, Nat.min_eq_left h, file_head]
/-- The entries of a file. -/
theorem file_ent0 {ss : List Sec} : entAt (fileB ss) (offs (allOf ss)) 0 = entW.map fun w => (w, 0) := by
  have hl := file_len (ss := ss)
  have h1 : ((fileB ss).take (offs (allOf ss) + 64 * 0 + 64)).drop (offs (allOf ss) + 64 * 0) = List.replicate 64 0 := by
    rw [List.drop_take, show offs (allOf ss) + 64 * 0 + 64 - (offs (allOf ss) + 64 * 0) = 64 by omega, show offs (allOf ss) + 64 * 0 = offs (allOf ss) by omega, file_tab, List.flatten_cons, List.take_left' (by simp)]
  unfold entAt
  rw [h1]
  have := told_laid (entW.map fun w => (w, 0)) [] (by decide)
  rw [List.append_nil, List.map_map] at this
  exact this
theorem file_ent {ss : List Sec} {k : Nat} {s : Sec} (hk : (allOf ss)[k]? = some s) (hv : ∀ f ∈ entF s (plOf ss s) (offs ((allOf ss).take k)), f.2 < 256 ^ f.1) : entAt (fileB ss) (offs (allOf ss)) (k + 1) = entF s (plOf ss s) (offs ((allOf ss).take k)) := by
  have h2 := entL_get (plOf ss) (allOf ss) 64 k s hk
  have h1 : ((fileB ss).take (offs (allOf ss) + 64 * (k + 1) + 64)).drop (offs (allOf ss) + 64 * (k + 1)) = laidF (entF s (plOf ss s) (offs ((allOf ss).take k))) := by
    rw [List.drop_take, show offs (allOf ss) + 64 * (k + 1) + 64 - (offs (allOf ss) + 64 * (k + 1)) = 64 by omega, ← List.drop_drop, file_tab]
    refine chunk_get (fun c hc => ?_) (by rw [List.getElem?_cons_succ]; exact h2)
    rw [List.mem_cons] at hc
    rcases hc with rfl | hc
    · simp
    · exact entL_64 _ _ _ c hc
  unfold entAt
  rw [h1]
  have := told_laid (entF s (plOf ss s) (offs ((allOf ss).take k))) [] hv
  rw [List.append_nil] at this
  exact this
end Go.Sh
