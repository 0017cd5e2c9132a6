/- Files of sections, plain: what is written is taken: the header and the table. -/
import Derived.Test.YtpgipjjhapapjabShLelf4
set_option linter.unusedVariables false
set_option linter.unusedSimpArgs false
namespace Go.Sh
theorem hdr_split (t n : Nat) : laidF (hdrF t n) = laidF [(4, 1179403647), (4, 65794), (8, 0), (2, 1), (2, 247), (4, 1), (8, 0), (8, 0)] ++ (lowB 8 t ++ (laidF [(4, 0), (2, 64), (2, 0), (2, 0), (2, 64)] ++ (lowB 2 n ++ lowB 2 (n - 1)))) := by
  simp [laidF, hdrF]
theorem hdr_same (t n : Nat) {i : Nat} (hi : i < 60) (ho : i < 40 ∨ 48 ≤ i) : (laidF (hdrF t n)).getD i 0 = wantB.getD i 0 := by
  have h1 : ∀ t n, (laidF (hdrF t n)).getD i 0 = if i < 40 then (laidF [(4, 1179403647), (4, 65794), (8, 0), (2, 1), (2, 247), (4, 1), (8, 0), (8, 0)]).getD i 0 else (laidF [(4, 0), (2, 64), (2, 0), (2, 0), (2, 64)]).getD (i - 48) 0 := fun t n => by
    rw [hdr_split]
    obtain ⟨P, hP⟩ : ∃ P, P = laidF [(4, 1179403647), (4, 65794), (8, 0), (2, 1), (2, 247), (4, 1), (8, 0), (8, 0)] := ⟨_, rfl⟩
    obtain ⟨Q, hQ⟩ : ∃ Q, Q = laidF [(4, 0), (2, 64), (2, 0), (2, 0), (2, 64)] := ⟨_, rfl⟩
    have hPl : P.length = 40 := by rw [hP, laidF_len]; rfl
    have hQl : Q.length = 12 := by rw [hQ, laidF_len]; rfl
    rw [← hP, ← hQ]
    simp only [List.getD_eq_getElem?_getD]
    split
    · rw [List.getElem?_append_left (by omega)]
    · rw [List.getElem?_append_right (by omega), List.getElem?_append_right (by simp; omega), List.getElem?_append_left (by simp; omega), hPl, lowB_len, show i - 40 - 8 = i - 48 by omega]
  rw [h1 t n, wantB, h1 0 2]
/-- The table's entries, one by one. -/
def entL (pl : Sec → Nat) (a : Nat) : List Sec → List (List UInt8)
  | [] => []
  | s :: r => laidF (entF s (pl s) a) :: entL pl (a + r8 s.data.length) r
theorem entL_flat (pl : Sec → Nat) : ∀ (l : List Sec) (a : Nat), (entL pl a l).flatten = entB pl a l
  | [], a => rfl
  | s :: r, a => by rw [entL, List.flatten_cons, entL_flat pl r, entB]
theorem entL_len (pl : Sec → Nat) : ∀ (l : List Sec) (a : Nat), (entL pl a l).length = l.length
  | [], a => rfl
  | s :: r, a => by rw [entL, List.length_cons, entL_len pl r, List.length_cons]
theorem entL_get (pl : Sec → Nat) : ∀ (l : List Sec) (a k : Nat) (s : Sec), l[k]? = some s → (entL pl a l)[k]? = some (laidF (entF s (pl s) (a + sumR (l.take k))))
  | [], a, k, s, h => by simp at h
  | x :: r, a, 0, s, h => by
    obtain rfl : x = s := by simpa using h
    simp [entL, sumR]
  | x :: r, a, k + 1, s, h => by
    have := entL_get pl r (a + r8 x.data.length) k s (by simpa using h)
    rw [entL, List.getElem?_cons_succ, this]
    simp [sumR, Nat.add_assoc]
theorem entL_64 (pl : Sec → Nat) : ∀ (l : List Sec) (a : Nat), ∀ c ∈ entL pl a l, c.length = 64
  | [], a, c, h => by simp [entL] at h
  | s :: r, a, c, h => by
    rw [entL, List.mem_cons] at h
    rcases h with rfl | h
    · rw [laidF_len, entF_wid]
    · exact entL_64 pl r _ c h
theorem chunk_get : ∀ {cs : List (List UInt8)} {k : Nat} {c : List UInt8}, (∀ c ∈ cs, c.length = 64) → cs[k]? = some c → (cs.flatten.drop (64 * k)).take 64 = c
  | [], k, c, _, h => by simp at h
  | x :: r, 0, c, hl, h => by
    obtain rfl : x = c := by simpa using h
    rw [Nat.mul_zero, List.drop_zero, List.flatten_cons, List.take_left' (hl x (List.mem_cons_self ..))]
  | x :: r, k + 1, c, hl, h => by
    have hx := hl x (List.mem_cons_self ..)
    rw [List.flatten_cons, show 64 * (k + 1) = 64 + 64 * k by omega, ← List.drop_drop, List.drop_left' hx]
    exact chunk_get (fun c hc => hl c (List.mem_cons_of_mem _ hc)) (by simpa using h)
section
variable {ss : List Sec}
theorem allOf_len : (allOf ss).length = ss.length + 1 := by simp [allOf]
theorem hdr_len (t n : Nat) : (laidF (hdrF t n)).length = 64 := by rw [laidF_len, hdrF_wid]
theorem file_len : (fileB ss).length = offs (allOf ss) + 64 * (ss.length + 2) := by
  unfold fileB
  rw [List.length_append, List.length_append, List.length_append, hdr_len, bodyB_len, List.length_replicate, entB_len, allOf_len]
  unfold offs
  omega
theorem file_head : (fileB ss).take 64 = laidF (hdrF (offs (allOf ss)) (ss.length + 2)) := by
  unfold fileB
  rw [List.append_assoc, List.take_left' (hdr_len _ _)]
theorem file_body : (fileB ss).take (offs (allOf ss)) = laidF (hdrF (offs (allOf ss)) (ss.length + 2)) ++ bodyB (allOf ss) := by
  unfold fileB
  rw [List.take_left' (by rw [List.length_append, hdr_len, bodyB_len]; rfl)]
theorem file_tab : (fileB ss).drop (offs (allOf ss)) = (List.replicate 64 0 :: entL (plOf ss) 64 (allOf ss)).flatten := by
  rw [List.flatten_cons, entL_flat]
  unfold fileB
  rw [List.drop_left' (by rw [List.length_append, hdr_len, bodyB_len]; rfl)]
theorem file_hdT (h16 : ss.length ≤ 16) (hsz : offs (allOf ss) < 2 ^ 62) : hdT (fileB ss) = hdrF (offs (allOf ss)) (ss.length + 2) := by
  unfold hdT
  rw [file_head]
  have := told_laid (hdrF (offs (allOf ss)) (ss.length + 2)) [] (by
    intro f hf
    simp only [hdrF, List.mem_cons, List.not_mem_nil, or_false] at hf
    rcases hf with rfl | rfl | rfl | rfl | rfl | rfl | rfl | rfl | rfl | rfl | rfl | rfl | rfl | rfl | rfl | rfl <;> (simp only; omega))
  rw [List.append_nil] at this
  exact this
theorem file_headP (h16 : ss.length ≤ 16) (hsz : offs (allOf ss) < 2 ^ 62) : headP (fileB ss) = none ∧ hv (fileB ss) 14 = ss.length + 2 ∧ tabP (fileB ss) = offs (allOf ss) := by
  have ht := file_hdT h16 hsz
  have h8 : hv (fileB ss) 8 = offs (allOf ss) := by unfold hv; rw [ht]; rfl
  have h14 : hv (fileB ss) 14 = ss.length + 2 := by unfold hv; rw [ht]; rfl
  have h15 : hv (fileB ss) 15 = ss.length + 1 := by unfold hv; rw [ht]; rfl
  have hl := file_len (ss := ss)
  have hr : roomI (fileB ss) = (offs (allOf ss) : Int) := by unfold roomI; rw [h14, hl]; omega
  have hm := offs_mod (allOf ss)
  have hge : 64 ≤ offs (allOf ss) := by unfold offs; omega
  refine ⟨?_, h14, by unfold tabP; rw [hr]; rfl⟩
  unfold headP
  refine find_range_none fun i hi => ?_
  have hby : i < 60 → (i < 40 ∨ 48 ≤ i) → (fileB ss).getD i 0 = wantB.getD i 0 := fun h1 h2 => by
    rw [← hdr_same (offs (allOf ss)) (ss.length + 2) h1 h2, ← file_head]
    rw [List.getD_eq_getElem?_getD, List.getD_eq_getElem?_getD, List.getElem?_take, if_pos (by omega)]
  unfold headBad
  rw [hr, h8, h14, h15]
  simp only [Bool.or_eq_false_iff, Bool.and_eq_false_iff, decide_eq_false_iff_not, Bool.not_eq_false', Bool.or_eq_true, decide_eq_true_eq, ne_eq, Classical.not_not]
  refine ⟨⟨⟨.inr ⟨⟨by omega, trivial⟩, by omega⟩, .inr ⟨by omega, by omega⟩⟩, .inr (by omega)⟩, ?_⟩
  by_cases c1 : 40 ≤ i ∧ i < 48
  · exact .inl (.inl c1)
  · by_cases c2 : 60 ≤ i
    · exact .inl (.inr c2)
    · exact .inr (hby (by omega) (by omega))
end
end Go.Sh

/- Files of sections, plain: cut files, longer ones; the entries of a file. -/
set_option linter.unusedVariables false
set_option linter.unusedSimpArgs false
namespace Go.Sh
/-- F4: a file's header with other bytes than its length allows. -/
theorem readF_len {L : List UInt8} {t n : Nat} (h : L.take 64 = laidF (hdrF t n)) (hL : 64 ≤ L.length) (ht : t < 2 ^ 62) (hn : n ≤ 1000) (hne : L.length ≠ t + 64 * n) : readF L = .inl (40, 91) := by
  have hd : hdT L = hdrF t n := by
    unfold hdT
    rw [h]
    have := told_laid (hdrF t n) [] (by
      intro f hf
      simp only [hdrF, List.mem_cons, List.not_mem_nil, or_false] at hf
      rcases hf with rfl | rfl | rfl | rfl | rfl | rfl | rfl | rfl | rfl | rfl | rfl | rfl | rfl | rfl | rfl | rfl <;> (simp only; omega))
    rw [List.append_nil] at this
    exact this
  have h8 : hv L 8 = t := by unfold hv; rw [hd]; rfl
  have h14 : hv L 14 = n := by unfold hv; rw [hd]; rfl
  have hr : roomI L = (L.length : Int) - 64 * (n : Int) := by unfold roomI; rw [h14]
  have hP : headP L = some 40 := by
    unfold headP
    refine find_range (by decide) (fun j hj => ?_) ?_
    · have hby : L.getD j 0 = wantB.getD j 0 := by
        rw [← hdr_same t n (i := j) (by omega) (.inl hj), ← h]
        rw [List.getD_eq_getElem?_getD, List.getD_eq_getElem?_getD, List.getElem?_take, if_pos (by omega)]
      unfold headBad
      rw [hby]
      have n40 : ¬ j = 40 := by omega
      have n60 : ¬ j = 60 := by omega
      have n62 : ¬ j = 62 := by omega
      simp [n40, n60, n62]
    · unfold headBad
      rw [h8, hr]
      have : ¬ (t : Int) = (L.length : Int) - 64 * (n : Int) := by omega
      simp [this]
  unfold readF
  rw [if_neg (by omega), hP]
theorem readF_more {ss : List Sec} {more : List UInt8} (h16 : ss.length ≤ 16) (hsz : offs (allOf ss) < 2 ^ 62) (hm : more ≠ []) : readF (fileB ss ++ more) = .inl (40, 91) := by
  have hl := file_len (ss := ss)
  have hm' : 0 < more.length := List.length_pos_iff.2 hm
  refine readF_len (t := offs (allOf ss)) (n := ss.length + 2) ?_ (by rw [List.length_append]; omega) hsz (by omega) (by rw [List.length_append]; omega)
  rw [List.take_append_of_le_length (by omega), file_head]
theorem readF_less {ss : List Sec} {keep : Nat} (h16 : ss.length ≤ 16) (hsz : offs (allOf ss) < 2 ^ 62) (hk : keep < (fileB ss).length) : ∃ q, readF ((fileB ss).take keep) = .inl (q, 90) ∨ readF ((fileB ss).take keep) = .inl (q, 91) := by
  have hl := file_len (ss := ss)
  rcases Nat.lt_or_ge keep 64 with h | h
  · refine ⟨((fileB ss).take keep).length, .inl ?_⟩
    unfold readF
    rw [if_pos (by rw [List.length_take]; omega)]
  · refine ⟨40, .inr (readF_len (t := offs (allOf ss)) (n := ss.length + 2) ?_ (by rw [List.length_take]; omega) hsz (by omega) (by rw [List.length_take]; omega))⟩
    rw [List.take_take, Nat.min_eq_left h, file_head]
/-- The entries of a file. -/
theorem file_ent0 {ss : List Sec} : entAt (fileB ss) (offs (allOf ss)) 0 = entW.map fun w => (w, 0) := by
  have hl := file_len (ss := ss)
  have h1 : ((fileB ss).take (offs (allOf ss) + 64 * 0 + 64)).drop (offs (allOf ss) + 64 * 0) = List.replicate 64 0 := by
    rw [List.drop_take, show offs (allOf ss) + 64 * 0 + 64 - (offs (allOf ss) + 64 * 0) = 64 by omega, show offs (allOf ss) + 64 * 0 = offs (allOf ss) by omega, file_tab, List.flatten_cons, List.take_left' (by simp)]
  unfold entAt
  rw [h1]
  have := told_laid (entW.map fun w => (w, 0)) [] (by decide)
  rw [List.append_nil, List.map_map] at this
  exact this
theorem file_ent {ss : List Sec} {k : Nat} {s : Sec} (hk : (allOf ss)[k]? = some s) (hv : ∀ f ∈ entF s (plOf ss s) (offs ((allOf ss).take k)), f.2 < 256 ^ f.1) : entAt (fileB ss) (offs (allOf ss)) (k + 1) = entF s (plOf ss s) (offs ((allOf ss).take k)) := by
  have h2 := entL_get (plOf ss) (allOf ss) 64 k s hk
  have h1 : ((fileB ss).take (offs (allOf ss) + 64 * (k + 1) + 64)).drop (offs (allOf ss) + 64 * (k + 1)) = laidF (entF s (plOf ss s) (offs ((allOf ss).take k))) := by
    rw [List.drop_take, show offs (allOf ss) + 64 * (k + 1) + 64 - (offs (allOf ss) + 64 * (k + 1)) = 64 by omega, ← List.drop_drop, file_tab]
    refine chunk_get (fun c hc => ?_) (by rw [List.getElem?_cons_succ]; exact h2)
    rw [List.mem_cons] at hc
    rcases hc with rfl | hc
    · simp
    · exact entL_64 _ _ _ c hc
  unfold entAt
  rw [h1]
  have := told_laid (entF s (plOf ss s) (offs ((allOf ss).take k))) [] hv
  rw [List.append_nil] at this
  exact this
end Go.Sh

/- Files of sections, plain: the passes over a file that was written. -/
set_option linter.unusedVariables false
set_option linter.unusedSimpArgs false
namespace Go.Sh
def aOf (ss : List Sec) (k : Nat) : Nat := if k = 0 then 64 else offs ((allOf ss).take (k - 1))
/-- A file that was written. -/
structure Wr (ss : List Sec) : Prop where
  gd : good ss
  sin : ∀ x ∈ ss, Sin x
  sz : offs (allOf ss) ≤ 1099511627776
theorem Wr.all {ss : List Sec} (h : Wr ss) : ∀ x ∈ allOf ss, mayS x = true ∧ Sin x := fun x hx => by
  rw [allOf, List.mem_append] at hx
  rcases hx with hx | hx
  · exact ⟨h.gd.2 x hx, h.sin x hx⟩
  · obtain rfl : x = _ := by simpa using hx
    exact ⟨ownS_may _ _, show (0 : Int) < 2 ^ 63 by decide, show (1 : Int) < 2 ^ 63 by decide, show (0 : Int) < 2 ^ 63 by decide⟩
theorem Wr.tab {ss : List Sec} (h : Wr ss) : endAt 1 (tabOf ss) ≤ 1 + 65 * 17 := by
  have hh := nmsOf_end (ss ++ [ownS [] false]) fun y hy => by
    rw [List.mem_append] at hy
    have hm : mayS y = true := by
      rcases hy with hy | hy
      · exact h.gd.2 y hy
      · obtain rfl : y = _ := by simpa using hy
        exact ownS_may _ _
    unfold mayS at hm
    simp only [Bool.and_eq_true] at hm
    exact hm.1.1.1.1.1.1
  rw [nmsOf_snoc, List.length_append] at hh
  have := h.gd.1
  simp only [List.length_cons, List.length_nil] at hh
  exact Nat.le_trans hh (by omega)
theorem Wr.pl {ss : List Sec} (h : Wr ss) (x : Sec) : plOf ss x < 4294967296 := by
  have ht := h.tab
  unfold plOf
  cases hc : findNm x.nm 1 (tabOf ss) with
  | none => simp
  | some q =>
    obtain ⟨i, h1, h2⟩ := findNm_some hc
    have : endAt 1 ((tabOf ss).take i) ≤ endAt 1 (tabOf ss) := by
      conv => rhs; rw [← List.take_append_drop i (tabOf ss), endAt_app]
      exact Nat.le_trans (Nat.le_add_right _ _) endAt_ge
    simp only [Option.getD_some]
    omega
theorem offs_take_le (l : List Sec) (i : Nat) : offs (l.take i) ≤ offs l := by
  have := sumR_take l i
  unfold offs
  omega
theorem Wr.ent {ss : List Sec} (h : Wr ss) {k : Nat} {s : Sec} (hk : (allOf ss)[k]? = some s) : entAt (fileB ss) (offs (allOf ss)) (k + 1) = entF s (plOf ss s) (offs ((allOf ss).take k)) := by
  refine file_ent hk fun f hf => ?_
  obtain ⟨hm, i1, i2, i3⟩ := h.all s (List.mem_of_getElem? hk)
  have hp := h.pl s
  have hsz := h.sz
  have ho := offs_take_le (allOf ss) k
  have ho2 := offs_take_le (allOf ss) (k + 1)
  have hd : s.data.length ≤ offs (allOf ss) := by
    rw [List.take_add_one, hk] at ho2
    have hr := r8_ge s.data.length
    unfold offs at ho2 ⊢
    simp only [Option.toList_some, sumR_snoc] at ho2
    omega
  unfold mayS smallI at hm
  simp only [Bool.and_eq_true, decide_eq_true_eq] at hm
  simp only [entF, List.mem_cons, List.not_mem_nil, or_false] at hf
  rcases hf with rfl | rfl | rfl | rfl | rfl | rfl | rfl | rfl | rfl | rfl <;> (simp only; omega)
theorem Wr.badEnt {ss : List Sec} (h : Wr ss) (k : Nat) (hk : k < ss.length + 2) : badEnt (offs (allOf ss)) k (aOf ss k) (decide (k + 1 = ss.length + 2)) (entAt (fileB ss) (offs (allOf ss)) k) = none ∧ nxtA k (aOf ss k) (entAt (fileB ss) (offs (allOf ss)) k) = aOf ss (k + 1) := by
  cases k with
  | zero =>
    refine ⟨?_, by simp [nxtA, aOf, offs, sumR]⟩
    rw [file_ent0]
    unfold Sh.badEnt
    refine find_range_none fun j hj => ?_
    have : fv (entW.map fun w => (w, 0)) j = 0 := by
      have : ∀ j, j < 10 → fv (entW.map fun w => (w, 0)) j = 0 := by decide
      exact this j hj
    simp [badFld, wrongM, this]
  | succ k =>
    have hal := allOf_len (ss := ss)
    obtain ⟨s, hs⟩ : ∃ s, (allOf ss)[k]? = some s := ⟨_, List.getElem?_eq_getElem (by omega)⟩
    have he := h.ent hs
    obtain ⟨hm, i1, i2, i3⟩ := h.all s (List.mem_of_getElem? hs)
    obtain ⟨a, ha⟩ : ∃ a, a = offs ((allOf ss).take k) := ⟨_, rfl⟩
    obtain ⟨t, ht⟩ : ∃ t, t = offs (allOf ss) := ⟨_, rfl⟩
    have ho2 := offs_take_le (allOf ss) (k + 1)
    have hmod := offs_mod ((allOf ss).take k)
    have hnx : offs ((allOf ss).take (k + 1)) = a + r8 s.data.length := by
      rw [List.take_add_one, hs, ha]
      unfold offs
      simp only [Option.toList_some, sumR_snoc]
      omega
    have hr := r8_ge s.data.length
    have ha0 : aOf ss (k + 1) = a := by rw [ha]; rfl
    have ha1 : aOf ss (k + 1 + 1) = a + r8 s.data.length := by rw [← hnx]; rfl
    rw [he, ha0, ha1, ← ha, ← ht]
    rw [← ha] at hmod
    rw [hnx, ← ht] at ho2
    obtain ⟨F, hF⟩ : ∃ F, F = entF s (plOf ss s) a := ⟨_, rfl⟩
    have f2 : fv F 2 = s.fl.toNat := by rw [hF]; rfl
    have f3 : fv F 3 = 0 := by rw [hF]; rfl
    have f4 : fv F 4 = a := by rw [hF]; rfl
    have f5 : fv F 5 = s.data.length := by rw [hF]; rfl
    have f8 : fv F 8 = s.al.toNat := by rw [hF]; rfl
    have f9 : fv F 9 = s.es.toNat := by rw [hF]; rfl
    rw [← hF]
    refine ⟨?_, by rw [nxtA, if_neg (by omega), f5, r8_add hmod]⟩
    have hwr : ∀ j, j < 10 → wrongM t (k + 1) j (fv F j) a = false := fun j hj => by
      have c : j = 0 ∨ j = 1 ∨ j = 2 ∨ j = 3 ∨ j = 4 ∨ j = 5 ∨ j = 6 ∨ j = 7 ∨ j = 8 ∨ j = 9 := by omega
      rcases c with rfl | rfl | rfl | rfl | rfl | rfl | rfl | rfl | rfl | rfl <;> simp [wrongM, f2, f3, f4, f5, f8, f9] <;> omega
    unfold Sh.badEnt
    refine find_range_none fun j hj => ?_
    unfold badFld
    rw [hwr j hj]
    by_cases hfin : k + 1 + 1 = ss.length + 2
    · have hsO : s = ownS (tabB (tabOf ss)) true := by
        have : k = ss.length := by omega
        rw [this, allOf, List.getElem?_append_right (Nat.le_refl _), Nat.sub_self] at hs
        simpa using hs.symm
      have hlast : ∀ j, j < 10 → j ≠ 0 → j ≠ 4 → j ≠ 5 → fv F j = fv lastE j := fun j hj n0 n4 n5 => by
        have c : j = 0 ∨ j = 1 ∨ j = 2 ∨ j = 3 ∨ j = 4 ∨ j = 5 ∨ j = 6 ∨ j = 7 ∨ j = 8 ∨ j = 9 := by omega
        rw [hF, hsO]
        rcases c with rfl | rfl | rfl | rfl | rfl | rfl | rfl | rfl | rfl | rfl <;> first | rfl | exact absurd rfl n0 | exact absurd rfl n4 | exact absurd rfl n5
      have htt : r8 (a + fv F 5) = t := by
        rw [f5, r8_add hmod, ← hnx, ht, List.take_of_length_le (by omega)]
      by_cases n0 : j = 0
      · simp [n0, htt]
      by_cases n4 : j = 4
      · simp [n4, htt]
      by_cases n5 : j = 5
      · simp [n5, htt]
      simp [hlast j hj n0 n4 n5, htt]
    · have hk' : ¬ k = ss.length := by omega
      simp [hk']
theorem Wr.flds {ss : List Sec} (h : Wr ss) : ∀ m k, k + m = ss.length + 2 → fldsM (fileB ss) (offs (allOf ss)) (ss.length + 2) m k (aOf ss k) = (none, (List.range m).map fun j => aOf ss (k + j))
  | 0, k, _ => rfl
  | m + 1, k, hk => by
    obtain ⟨h1, h2⟩ := h.badEnt k (by omega)
    simp only [fldsM, h1]
    rw [h2, h.flds m (k + 1) (by omega), List.range_succ_eq_map]
    simp only [List.map_cons, Nat.add_zero, List.map_map, Prod.mk.injEq, List.cons.injEq, true_and]
    refine List.map_congr_left fun j _ => ?_
    simp only [Function.comp, Nat.succ_eq_add_one]
    congr 1
    omega
end Go.Sh

/- Files of sections, plain: the data of a file that was written. -/
set_option linter.unusedVariables false
set_option linter.unusedSimpArgs false
namespace Go.Sh
theorem padIn_zero {L : List UInt8} : ∀ {m e : Nat}, (∀ i, e ≤ i → i < e + m → L.getD i 0 = 0) → padIn L m e = none
  | 0, e, _ => rfl
  | m + 1, e, h => by
    have h0 := h e (Nat.le_refl _) (by omega)
    simp only [padIn, h0, ne_eq, not_true, if_false]
    exact padIn_zero fun i h1 h2 => h i (by omega) (by omega)
theorem file_slice {ss : List Sec} {k : Nat} {s : Sec} (hk : (allOf ss)[k]? = some s) : ((fileB ss).drop (offs ((allOf ss).take k))).take (r8 s.data.length) = padB s := by
  have h1 : (fileB ss).drop 64 = bodyB (allOf ss) ++ (List.replicate 64 0 ++ entB (plOf ss) 64 (allOf ss)) := by
    unfold fileB
    rw [List.append_assoc, List.drop_left' (hdr_len _ _)]
  have hlt := (List.getElem?_eq_some_iff.1 hk).1
  have h2 : bodyB (allOf ss) = bodyB ((allOf ss).take k) ++ (padB s ++ bodyB ((allOf ss).drop (k + 1))) := by
    conv => lhs; rw [← List.take_append_drop k (allOf ss), List.drop_eq_getElem_cons hlt, (List.getElem?_eq_some_iff.1 hk).2]
    simp [bodyB]
  unfold offs
  rw [← List.drop_drop, h1, h2, List.append_assoc, List.drop_left' (bodyB_len _), List.append_assoc, List.take_left' (padB_len s)]
theorem file_data {ss : List Sec} {k : Nat} {s : Sec} (hk : (allOf ss)[k]? = some s) : ((fileB ss).take (offs ((allOf ss).take k) + s.data.length)).drop (offs ((allOf ss).take k)) = s.data ∧ padAt (fileB ss) (offs ((allOf ss).take k) + s.data.length) = none := by
  have h := file_slice hk
  have hr := r8_ge s.data.length
  have hm := offs_mod ((allOf ss).take k)
  constructor
  · rw [List.drop_take, show offs ((allOf ss).take k) + s.data.length - offs ((allOf ss).take k) = s.data.length by omega]
    have := congrArg (List.take s.data.length) h
    rw [List.take_take, Nat.min_eq_left hr] at this
    rw [this, padB, List.take_left' rfl]
  · unfold padAt
    rw [r8_add hm]
    refine padIn_zero fun i h1 h2 => ?_
    have h3 := congrArg (fun l => l[i - offs ((allOf ss).take k)]?) h
    rw [List.getElem?_take, if_pos (by omega), List.getElem?_drop, show offs ((allOf ss).take k) + (i - offs ((allOf ss).take k)) = i by omega, padB, List.getElem?_append_right (by omega), List.getElem?_replicate, if_pos (by omega)] at h3
    rw [List.getD_eq_getElem?_getD, h3]
    rfl
def atsOf (ss : List Sec) : List Nat := (List.range (ss.length + 2)).map fun j => aOf ss (0 + j)
theorem atsOf_get {ss : List Sec} {k : Nat} (hk : k < ss.length + 2) : (atsOf ss).getD k 0 = aOf ss k := by
  rw [List.getD_eq_getElem?_getD]
  simp [atsOf, hk]
theorem Wr.fv5 {ss : List Sec} (h : Wr ss) {k : Nat} {s : Sec} (hk : (allOf ss)[k]? = some s) : fv (entAt (fileB ss) (offs (allOf ss)) (k + 1)) 5 = s.data.length := by rw [h.ent hk]; rfl
theorem Wr.data {ss : List Sec} (h : Wr ss) {k : Nat} {s : Sec} (hk : (allOf ss)[k]? = some s) : dataAt (fileB ss) (offs (allOf ss)) (atsOf ss) (k + 1) = s.data := by
  have hlt := (List.getElem?_eq_some_iff.1 hk).1
  rw [allOf_len] at hlt
  unfold dataAt
  rw [h.fv5 hk, atsOf_get (by omega)]
  exact (file_data hk).1
theorem Wr.pad {ss : List Sec} (h : Wr ss) : ∀ m k, 1 ≤ k → k + m ≤ ss.length + 2 → padM (fileB ss) (offs (allOf ss)) (atsOf ss) m k = none
  | 0, _, _, _ => rfl
  | m + 1, k + 1, hk, hm => by
    obtain ⟨s, hs⟩ : ∃ s, (allOf ss)[k]? = some s := ⟨_, List.getElem?_eq_getElem (by rw [allOf_len]; omega)⟩
    have := (file_data hs).2
    have e : aOf ss (k + 1) = offs ((allOf ss).take k) := rfl
    simp only [padM, h.fv5 hs, atsOf_get (show k + 1 < ss.length + 2 by omega), e, this]
    exact h.pad m (k + 1 + 1) (by omega) (by omega)
end Go.Sh

/- Files of sections, plain: the names of a file that was written. -/
set_option linter.unusedVariables false
set_option linter.unusedSimpArgs false
namespace Go.Sh
theorem nmsL_app (l : List Nm) : ∀ r, ∃ x, nmsL (l ++ r) = nmsL l ++ x := by
  intro r
  unfold nmsL
  rw [List.foldl_append]
  generalize l.foldl addNm [] = acc
  induction r generalizing acc with
  | nil => exact ⟨[], by simp⟩
  | cons s r ih =>
    obtain ⟨x, hx⟩ := addNm_app acc s
    obtain ⟨y, hy⟩ := ih (addNm acc s)
    exact ⟨x ++ y, by rw [List.foldl_cons, hy, hx, List.append_assoc]⟩
theorem addNm_nodup {ns : List Nm} {s : Nm} (h : ns.Nodup) : (addNm ns s).Nodup := by
  unfold addNm
  split
  · exact h
  · rename_i hs
    rw [List.nodup_append]
    refine ⟨h, by simp, fun a ha b hb => ?_⟩
    obtain rfl : b = s := by simpa using hb
    rintro rfl
    exact hs ha
theorem foldl_nodup : ∀ (l : List Nm) (acc : List Nm), acc.Nodup → (l.foldl addNm acc).Nodup
  | [], acc, h => h
  | s :: r, acc, h => foldl_nodup r _ (addNm_nodup h)
theorem foldl_mem : ∀ (l : List Nm) (acc : List Nm) (x : Nm), x ∈ l.foldl addNm acc ↔ x ∈ acc ∨ x ∈ l
  | [], acc, x => by simp
  | s :: r, acc, x => by
    rw [List.foldl_cons, foldl_mem r]
    have : x ∈ addNm acc s ↔ x ∈ acc ∨ x = s := by
      unfold addNm
      split
      · rename_i hs
        exact ⟨.inl, fun h => by rcases h with h | rfl; exact h; exact hs⟩
      · simp
    rw [this, List.mem_cons, or_assoc]
def nmsA (ss : List Sec) : List Nm := (allOf ss).map (·.nm)
theorem tabOf_L (ss : List Sec) : tabOf ss = nmsL (nmsA ss) := by
  unfold tabOf nmsA allOf
  rw [nmsOf_L, ← nmsL_snoc, List.map_append]
  rfl
theorem tab_nodup (ss : List Sec) : (tabOf ss).Nodup := by rw [tabOf_L]; exact foldl_nodup _ _ List.nodup_nil
theorem tab_mem (ss : List Sec) (x : Nm) : x ∈ tabOf ss ↔ x ∈ nmsA ss := by
  rw [tabOf_L]
  unfold nmsL
  rw [foldl_mem]
  simp
theorem Wr.tab_ok {ss : List Sec} (h : Wr ss) : ∀ s ∈ tabOf ss, okNm s = true := fun s hs => by
  rw [tab_mem] at hs
  simp only [nmsA, List.mem_map] at hs
  obtain ⟨x, hx, rfl⟩ := hs
  have hm := (h.all x hx).1
  unfold mayS at hm
  simp only [Bool.and_eq_true] at hm
  exact hm.1.1.1.1.1.1
theorem Wr.names {ss : List Sec} (h : Wr ss) : ∀ (m k : Nat) (sl : List (Nat × Nat)) (nx : Nat), 1 ≤ k → k + m = ss.length + 2 → nx = endAt 1 (nmsL ((nmsA ss).take (k - 1))) → (∀ x, seenI sl x = true ↔ x ∈ plcs 1 (nmsL ((nmsA ss).take (k - 1)))) →
    namesM (tabOf ss) (fileB ss) (offs (allOf ss)) (ss.length + 2) m k sl nx ((nmsA ss).take (k - 1)) = .inr (nmsA ss, endAt 1 (tabOf ss))
  | 0, k, sl, nx, hk, hm, hx, hsn => by
    have hl : (nmsA ss).length = ss.length + 1 := by simp [nmsA, allOf_len]
    have e : (nmsA ss).take (k - 1) = nmsA ss := List.take_of_length_le (by omega)
    rw [e] at hx ⊢
    rw [namesM, hx, tabOf_L]
  | m + 1, k + 1, sl, nx, hk, hm, hx, hsn => by
    have hl : (nmsA ss).length = ss.length + 1 := by simp [nmsA, allOf_len]
    rw [Nat.add_sub_cancel] at hx hsn ⊢
    obtain ⟨s, hs⟩ : ∃ s, (allOf ss)[k]? = some s := ⟨_, List.getElem?_eq_getElem (by rw [allOf_len]; omega)⟩
    have hsn' : (nmsA ss)[k]? = some s.nm := by simp [nmsA, hs]
    have hpl : fv (entAt (fileB ss) (offs (allOf ss)) (k + 1)) 0 = plOf ss s := by rw [h.ent hs]; rfl
    have hmem : s.nm ∈ tabOf ss := (tab_mem ss _).2 (List.mem_of_getElem? hsn')
    obtain ⟨i, hi⟩ := List.mem_iff_getElem?.1 hmem
    have hf := findNm_at (a := 1) (tab_nodup ss) hi
    obtain ⟨pl, hp⟩ : ∃ pl, pl = plOf ss s := ⟨_, rfl⟩
    have hpe : pl = endAt 1 ((tabOf ss).take i) := by rw [hp, plOf, hf]; rfl
    have hge := endAt_ge (a := 1) (ns := (tabOf ss).take i)
    have hno : nmOf (tabOf ss) pl = some s.nm := by
      unfold nmOf
      rw [if_neg (by omega), hpe]
      exact nmAt_at hi
    obtain ⟨O, hO⟩ : ∃ O, O = (nmsA ss).take k := ⟨_, rfl⟩
    rw [← hO] at hx hsn ⊢
    have hO1 : (nmsA ss).take (k + 1) = O ++ [s.nm] := by rw [List.take_add_one, hsn', hO]; rfl
    obtain ⟨r, hr⟩ := nmsL_app (O ++ [s.nm]) ((nmsA ss).drop (k + 1))
    rw [← hO1, List.take_append_drop, ← tabOf_L, hO1, nmsL_snoc] at hr
    have hown : ¬ (k + 1 + 1 = ss.length + 2 ∧ s.nm ≠ ownNm) := by
      rintro ⟨e, hne⟩
      apply hne
      have : k = ss.length := by omega
      rw [this, allOf, List.getElem?_append_right (Nat.le_refl _), Nat.sub_self] at hs
      obtain rfl : ownS (tabB (tabOf ss)) true = s := by simpa using hs
      rfl
    have hil : i < (tabOf ss).length := (List.getElem?_eq_some_iff.1 hi).1
    simp only [namesM, hpl, ← hp, hno]
    by_cases hin : s.nm ∈ nmsL O
    · have hadd : addNm (nmsL O) s.nm = nmsL O := by simp [addNm, hin]
      rw [hadd] at hr
      have hsee : seenI sl pl = true := by
        rw [hsn, plcs_mem]
        obtain ⟨i', hi'⟩ := List.mem_iff_getElem?.1 hin
        have hi'l := (List.getElem?_eq_some_iff.1 hi').1
        have h3 : (tabOf ss)[i']? = some s.nm := by rw [hr, List.getElem?_append_left hi'l]; exact hi'
        have h4 := findNm_at (a := 1) (tab_nodup ss) h3
        rw [hf] at h4
        refine ⟨i', s.nm, hi', ?_⟩
        rw [hpe, Option.some.inj h4, hr, List.take_append_of_le_length (by omega)]
      rw [if_neg (by rintro (⟨e, _⟩ | e); rw [hsee] at e; cases e; exact hown e), if_pos hsee]
      have := h.names m (k + 1 + 1) sl nx (by omega) (by omega) (by rw [Nat.add_sub_cancel, hO1, nmsL_snoc, hadd]; exact hx) (by rw [Nat.add_sub_cancel, hO1, nmsL_snoc, hadd]; exact hsn)
      rw [Nat.add_sub_cancel, hO1] at this
      exact this
    · have hadd : addNm (nmsL O) s.nm = nmsL O ++ [s.nm] := by simp [addNm, hin]
      rw [hadd, List.append_assoc] at hr
      have h3 : (tabOf ss)[(nmsL O).length]? = some s.nm := by rw [hr, List.getElem?_append_right (Nat.le_refl _), Nat.sub_self]; rfl
      have h4 := findNm_at (a := 1) (tab_nodup ss) h3
      rw [hf] at h4
      have hpn : pl = endAt 1 (nmsL O) := by
        rw [hpe, Option.some.inj h4, hr, List.take_left' rfl]
      have hsee : ¬ seenI sl pl = true := by
        rw [hsn, plcs_mem]
        rintro ⟨i', s', h5, h6⟩
        have hi'l := (List.getElem?_eq_some_iff.1 h5).1
        have h7 := endAt_take_lt (a := 1) (ns := nmsL O) hi'l (Nat.le_refl _)
        rw [List.take_of_length_le (Nat.le_refl _)] at h7
        omega
      rw [if_neg (by rintro (⟨_, e⟩ | e); exact e (hpn.trans hx.symm); exact hown e), if_neg hsee]
      have hN : nmsL (O ++ [s.nm]) = nmsL O ++ [s.nm] := by rw [nmsL_snoc, hadd]
      have := h.names m (k + 1 + 1) (sl ++ [(pl, k + 1)]) (pl + s.nm.length + 1) (by omega) (by omega) (by rw [Nat.add_sub_cancel, hO1, hN, endAt_snoc, hpn]) (fun x => by
        rw [Nat.add_sub_cancel, hO1, hN, plcs_app]
        have e1 : seenI (sl ++ [(pl, k + 1)]) x = (seenI sl x || (pl == x)) := by simp [seenI]
        have e2 : plcs (endAt 1 (nmsL O)) [s.nm] = [endAt 1 (nmsL O)] := rfl
        rw [e1, Bool.or_eq_true, List.mem_append, hsn x, e2, ← hpn, beq_iff_eq, List.mem_singleton]
        exact or_congr Iff.rfl ⟨Eq.symm, Eq.symm⟩)
      rw [Nat.add_sub_cancel, hO1] at this
      exact this
end Go.Sh

/- Files of sections, plain: what is written is read back. -/
set_option linter.unusedVariables false
set_option linter.unusedSimpArgs false
namespace Go.Sh
theorem Wr.key {ss : List Sec} (h : Wr ss) {i : Nat} {s : Sec} (hs : ss[i]? = some s) : (secR (fileB ss) (offs (allOf ss)) (atsOf ss) (nmsA ss) (i + 1)).key = s.key := by
  have hlt := (List.getElem?_eq_some_iff.1 hs).1
  have ha : (allOf ss)[i]? = some s := by rw [allOf, List.getElem?_append_left hlt]; exact hs
  have hd := h.data ha
  have hn : (nmsA ss).getD i [] = s.nm := by
    have : (nmsA ss)[i]? = some s.nm := by simp [nmsA, ha]
    rw [List.getD_eq_getElem?_getD, this]
    rfl
  have hm := h.gd.2 s (List.mem_of_getElem? hs)
  unfold mayS smallI at hm
  simp only [Bool.and_eq_true, decide_eq_true_eq] at hm
  have he := h.ent ha
  obtain ⟨F, hF⟩ : ∃ F, F = entF s (plOf ss s) (offs ((allOf ss).take i)) := ⟨_, rfl⟩
  have f1 : (fv F 1 : Int) = s.ty := by rw [show fv F 1 = s.ty.toNat by rw [hF]; rfl]; omega
  have f2 : (fv F 2 : Int) = s.fl := by rw [show fv F 2 = s.fl.toNat by rw [hF]; rfl]; omega
  have f6 : (fv F 6 : Int) = s.li := by rw [show fv F 6 = s.li.toNat by rw [hF]; rfl]; omega
  have f7 : (fv F 7 : Int) = s.inf := by rw [show fv F 7 = s.inf.toNat by rw [hF]; rfl]; omega
  have f8 : (fv F 8 : Int) = s.al := by rw [show fv F 8 = s.al.toNat by rw [hF]; rfl]; omega
  have f9 : (fv F 9 : Int) = s.es := by rw [show fv F 9 = s.es.toNat by rw [hF]; rfl]; omega
  unfold secR Sec.key
  rw [he, ← hF, hd, Nat.add_sub_cancel, hn]
  simp only [f1, f2, f6, f7, f8, f9]
theorem readF_inr {L : List UInt8} {t n : Nat} {ats : List Nat} {out : List Nm} (h64 : 64 ≤ L.length) (hP : headP L = none) (hn : hv L 14 = n) (ht : tabP L = t) (hf : fldsM L t n n 0 64 = (none, ats)) (hp : padM L t ats (n - 1) 1 = none) (hr : namesR L t n ats = .inr out) : readF L = .inr (secsR L t ats out (n - 2)) := by
  unfold readF
  rw [if_neg (by omega), hP]
  simp only [hn, ht, hf, hp, hr]
/-- F1. -/
theorem readF_written {ss : List Sec} (h : Wr ss) : ∃ ss', readF (fileB ss) = .inr ss' ∧ ss'.map Sec.key = ss.map Sec.key := by
  have h16 := h.gd.1
  have hsz := h.sz
  obtain ⟨hP, h14, htp⟩ := file_headP h16 (by omega)
  have hl := file_len (ss := ss)
  have hflds := h.flds (ss.length + 2) 0 (by omega)
  have ha0 : aOf ss 0 = 64 := rfl
  rw [ha0] at hflds
  have hpad := h.pad (ss.length + 2 - 1) 1 (Nat.le_refl _) (by omega)
  have hlast : (allOf ss)[ss.length]? = some (ownS (tabB (tabOf ss)) true) := by rw [allOf, List.getElem?_append_right (Nat.le_refl _), Nat.sub_self]; rfl
  have hdat := h.data hlast
  have hf5 := h.fv5 hlast
  have hrd := readB_tab h.tab_ok (tab_nodup ss)
  have hnm := h.names (ss.length + 1) 1 [] 1 (Nat.le_refl _) (by omega) rfl (fun x => by simp [seenI, nmsL, plcs])
  have hnr : namesR (fileB ss) (offs (allOf ss)) (ss.length + 2) (atsOf ss) = .inr (nmsA ss) := by
    unfold namesR
    rw [show ss.length + 2 - 1 = ss.length + 1 by omega, hdat]
    have e1 : (ownS (tabB (tabOf ss)) true).data = tabB (tabOf ss) := rfl
    rw [e1, hrd]
    simp only
    have e2 : (nmsA ss).take (1 - 1) = [] := rfl
    rw [e2] at hnm
    rw [hnm]
    simp only
    rw [if_pos (by rw [hf5, e1, tabB_len])]
  have hR := readF_inr (by omega) hP h14 htp hflds hpad hnr
  refine ⟨_, hR, ?_⟩
  rw [show ss.length + 2 - 2 = ss.length by omega]
  refine List.ext_getElem? fun i => ?_
  rcases Nat.lt_or_ge i ss.length with hi | hi
  · obtain ⟨s, hs⟩ : ∃ s, ss[i]? = some s := ⟨_, List.getElem?_eq_getElem hi⟩
    have := h.key hs
    simp only [secsR, List.map_map, List.getElem?_map, hs, Option.map_some, List.getElem?_range hi, Function.comp]
    exact congrArg some this
  · rw [List.getElem?_eq_none (by simp [secsR]; exact hi), List.getElem?_eq_none (by simp; exact hi)]
end Go.Sh
