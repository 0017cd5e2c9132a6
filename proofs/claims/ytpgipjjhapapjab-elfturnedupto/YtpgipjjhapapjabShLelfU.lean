/- Files of sections, plain: what is written is taken: the header and the table. -/
import Derived.Test.YtpgipjjhapapjabShLelfT
set_option linter.unusedVariables false
set_option linter.unusedSimpArgs false
namespace Go.Sh
theorem hdr_split (t n : Nat) : laidF (hdrF t n) = laidF [(4, 1179403647), (4, 65794), (8, 0), (2, 1), (2, 247), (4, 1), (8, 0), (8, 0)] ++ (lowB 8 t ++ (laidF [(4, 0), (2, 64), (2, 0), (2, 0), (2, 64)] ++ (lowB 2 n ++ lowB 2 (n - 1)))) := by
  simp [laidF, hdrF]
theorem hdr_same (t n : Nat) {i : Nat} (hi : i < 60) (ho : i < 40 ∨ 48 ≤ i) : (laidF (hdrF t n)).getD i 0 = wantB.getD i 0 := by
  have h1 : ∀ t n, (laidF (hdrF t n)).getD i 0 = if i < 40 then (laidF [(4, 1179403647), (4, 65794), (8, 0), (2, 1), (2, 247), (4, 1), (8, 0), (8, 0)]).getD i 0 else (laidF [(4, 0), (2, 64), (2, 0), (2, 0), (2, 64)]).getD (i - 48) 0 := fun t n => by
    rw [hdr_split]
    obtain ⟨P, hP⟩ : ∃ P, P = laidF [(4, 1179403647), (4, 65794), (8, 0), (2, 1), (2, 247), (4, 1), (8, 0), (8, 0)] := ⟨_, rfl⟩
    obtain ⟨Q, hQ⟩ : ∃ Q, Q = laidF [(4, 0), (2, 64), (2, 0), (2, 0), (2, 64)] := ⟨_, rfl⟩
    have hPl : P.length = 40 := by rw [hP, laidF_len]; rfl
    have hQl : Q.length = 12 := by rw [hQ, laidF_len]; rfl
    rw [← hP, ← hQ]
    simp only [List.getD_eq_getElem?_getD]
    split
    · rw [List.getElem?_append_left (by omega)]
    · rw [List.getElem?_append_right (by omega), List.getElem?_append_right (by simp; omega), List.getElem?_append_left (by simp; omega), hPl, lowB_len, show i - 40 - 8 = i - 48 by omega]
  rw [h1 t n, wantB, h1 0 2]
/-- The table's entries, one by one. -/
def entL (pl : Sec → Nat) (a : Nat) : List Sec → List (List UInt8)
  | [] => []
  | s :: r => laidF (entF s (pl s) a) :: entL pl (a + r8 s.data.length) r
theorem entL_flat (pl : Sec → Nat) : ∀ (l : List Sec) (a : Nat), (entL pl a l).flatten = entB pl a l
  | [], a => rfl
  | s :: r, a => by rw [entL, List.flatten_cons, entL_flat pl r, entB]
theorem entL_len (pl : Sec → Nat) : ∀ (l : List Sec) (a : Nat), (entL pl a l).length = l.length
  | [], a => rfl
  | s :: r, a => by rw [entL, List.length_cons, entL_len pl r, List.length_cons]
theorem entL_get (pl : Sec → Nat) : ∀ (l : List Sec) (a k : Nat) (s : Sec), l[k]? = some s → (entL pl a l)[k]? = some (laidF (entF s (pl s) (a + sumR (l.take k))))
  | [], a, k, s, h => by simp at h
  | x :: r, a, 0, s, h => by
    obtain rfl : x = s := by simpa using h
    simp [entL, sumR]
  | x :: r, a, k + 1, s, h => by
    have := entL_get pl r (a + r8 x.data.length) k s (by simpa using h)
    rw [entL, List.getElem?_cons_succ, this]
    simp [sumR, Nat.add_assoc]
theorem entL_64 (pl : Sec → Nat) : ∀ (l : List Sec) (a : Nat), ∀ c ∈ entL pl a l, c.length = 64
  | [], a, c, h => by simp [entL] at h
  | s :: r, a, c, h => by
    rw [entL, List.mem_cons] at h
    rcases h with rfl | h
    · rw [laidF_len, entF_wid]
    · exact entL_64 pl r _ c h
theorem chunk_get : ∀ {cs : List (List UInt8)} {k : Nat} {c : List UInt8}, (∀ c ∈ cs, c.length = 64) → cs[k]? = some c → (cs.flatten.drop (64 * k)).take 64 = c
  | [], k, c, _, h => by simp at h
  | x :: r, 0, c, hl, h => by
    obtain rfl : x = c := by simpa using h
    rw [Nat.mul_zero, List.drop_zero, List.flatten_cons, List.take_left' (hl x (List.mem_cons_self ..))]
  | x :: r, k + 1, c, hl, h => by
    have hx := hl x (List.mem_cons_self ..)
    rw [List.flatten_cons, show 64 * (k + 1) = 64 + 64 * k by omega, ← List.drop_drop, List.drop_left' hx]
    exact chunk_get (fun c hc => hl c (List.mem_cons_of_mem _ hc)) (by simpa using h)
section
variable {ss : List Sec}
theorem allOf_len : (allOf ss).length = ss.length + 1 := by simp [allOf]
theorem hdr_len (t n : Nat) : (laidF (hdrF t n)).length = 64 := by rw [laidF_len, hdrF_wid]
theorem file_len : (fileB ss).length = offs (allOf ss) + 64 * (ss.length + 2) := by
  unfold fileB
  rw [List.length_append, List.length_append, List.length_append, hdr_len, bodyB_len, List.length_replicate, entB_len, allOf_len]
  unfold offs
  omega
theorem file_head : (fileB ss).take 64 = laidF (hdrF (offs (allOf ss)) (ss.length + 2)) := by
  unfold fileB
  rw [List.append_assoc, List.take_left' (hdr_len _ _)]
theorem file_body : (fileB ss).take (offs (allOf ss)) = laidF (hdrF (offs (allOf ss)) (ss.length + 2)) ++ bodyB (allOf ss) := by
  unfold fileB
  rw [List.take_left' (by rw [List.length_append, hdr_len, bodyB_len]; rfl)]
theorem file_tab : (fileB ss).drop (offs (allOf ss)) = (List.replicate 64 0 :: entL (plOf ss) 64 (allOf ss)).flatten := by
  rw [List.flatten_cons, entL_flat]
  unfold fileB
  rw [List.drop_left' (by rw [List.length_append, hdr_len, bodyB_len]; rfl)]
theorem file_hdT (h16 : ss.length ≤ 16) (hsz : offs (allOf ss) < 2 ^ 62) : hdT (fileB ss) = hdrF (offs (allOf ss)) (ss.length + 2) := by
  unfold hdT
  rw [file_head]
  have := told_laid (hdrF (offs (allOf ss)) (ss.length + 2)) [] (by
    intro f hf
    simp only [hdrF, List.mem_cons, List.not_mem_nil, or_false] at hf
    rcases hf with rfl | rfl | rfl | rfl | rfl | rfl | rfl | rfl | rfl | rfl | rfl | rfl | rfl | rfl | rfl | rfl <;> (simp only; omega))
  rw [List.append_nil] at this
  exact this
theorem file_headP (h16 : ss.length ≤ 16) (hsz : offs (allOf ss) < 2 ^ 62) : headP (fileB ss) = none ∧ hv (fileB ss) 14 = ss.length + 2 ∧ tabP (fileB ss) = offs (allOf ss) := by
  have ht := file_hdT h16 hsz
  have h8 : hv (fileB ss) 8 = offs (allOf ss) := by unfold hv; rw [ht]; rfl
  have h14 : hv (fileB ss) 14 = ss.length + 2 := by unfold hv; rw [ht]; rfl
  have h15 : hv (fileB ss) 15 = ss.length + 1 := by unfold hv; rw [ht]; rfl
  have hl := file_len (ss := ss)
  have hr : roomI (fileB ss) = (offs (allOf ss) : Int) := by unfold roomI; rw [h14, hl]; omega
  have hm := offs_mod (allOf ss)
  have hge : 64 ≤ offs (allOf ss) := by unfold offs; omega
  refine ⟨?_, h14, by unfold tabP; rw [hr]; rfl⟩
  unfold headP
  refine find_range_none fun i hi => ?_
  have hby : i < 60 → (i < 40 ∨ 48 ≤ i) → (fileB ss).getD i 0 = wantB.getD i 0 := fun h1 h2 => by
    rw [← hdr_same (offs (allOf ss)) (ss.length + 2) h1 h2, ← file_head]
    rw [List.getD_eq_getElem?_getD, List.getD_eq_getElem?_getD, List.getElem?_take, if_pos (by omega)]
  unfold headBad
  rw [hr, h8, h14, h15]
  simp only [Bool.or_eq_false_iff, Bool.and_eq_false_iff, decide_eq_false_iff_not, Bool.not_eq_false', Bool.or_eq_true, decide_eq_true_eq, ne_eq, Classical.not_not]
  refine ⟨⟨⟨.inr ⟨⟨by omega, trivial⟩, by omega⟩, .inr ⟨by omega, by omega⟩⟩, .inr (by omega)⟩, ?_⟩
  by_cases c1 : 40 ≤ i ∧ i < 48
  · exact .inl (.inl c1)
  · by_cases c2 : 60 ≤ i
    · exact .inl (.inr c2)
    · exact .inr (hby (by omega) (by omega))
end
end Go.Sh
