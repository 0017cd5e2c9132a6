/- Files of sections, plain: the passes over a file that was written. -/
import Derived.Test.YtpgipjjhapapjabShLelfV
set_option linter.unusedVariables false
set_option linter.unusedSimpArgs false
namespace Go.Sh
def aOf (ss : List Sec) (k : Nat) : Nat := if k = 0 then 64 else offs ((allOf ss).take (k - 1))
/-- A file that was written. -/
structure Wr (ss : List Sec) : Prop where
  gd : good ss
  sin : ∀ x ∈ ss, Sin x
  sz : offs (allOf ss) ≤ 1099511627776
theorem Wr.all {ss : List Sec} (h : Wr ss) : ∀ x ∈ allOf ss, mayS x = true ∧ Sin x := fun x hx => by
  rw [allOf, List.mem_append] at hx
  rcases hx with hx | hx
  · exact ⟨h.gd.2 x hx, h.sin x hx⟩
  · obtain rfl : x = _ := by simpa using hx
    exact ⟨ownS_may _ _, show (0 : Int) < 2 ^ 63 by decide, show (1 : Int) < 2 ^ 63 by decide, show (0 : Int) < 2 ^ 63 by decide⟩
theorem Wr.tab {ss : List Sec} (h : Wr ss) : endAt 1 (tabOf ss) ≤ 1 + 65 * 17 := by
  have hh := nmsOf_end (ss ++ [ownS [] false]) fun y hy => by
    rw [List.mem_append] at hy
    have hm : mayS y = true := by
      rcases hy with hy | hy
      · exact h.gd.2 y hy
      · obtain rfl : y = _ := by simpa using hy
        exact ownS_may _ _
    unfold mayS at hm
    simp only [Bool.and_eq_true] at hm
    exact hm.1.1.1.1.1.1
  rw [nmsOf_snoc, List.length_append] at hh
  have := h.gd.1
  simp only [List.length_cons, List.length_nil] at hh
  exact Nat.le_trans hh (by omega)
theorem Wr.pl {ss : List Sec} (h : Wr ss) (x : Sec) : plOf ss x < 4294967296 := by
  have ht := h.tab
  unfold plOf
  cases hc : findNm x.nm 1 (tabOf ss) with
  | none => simp
  | some q =>
    obtain ⟨i, h1, h2⟩ := findNm_some hc
    have : endAt 1 ((tabOf ss).take i) ≤ endAt 1 (tabOf ss) := by
      conv => rhs; rw [← List.take_append_drop i (tabOf ss), endAt_app]
      exact Nat.le_trans (Nat.le_add_right _ _) endAt_ge
    simp only [Option.getD_some]
    omega
theorem offs_take_le (l : List Sec) (i : Nat) : offs (l.take i) ≤ offs l := by
  have := sumR_take l i
  unfold offs
  omega
theorem Wr.ent {ss : List Sec} (h : Wr ss) {k : Nat} {s : Sec} (hk : (allOf ss)[k]? = some s) : entAt (fileB ss) (offs (allOf ss)) (k + 1) = entF s (plOf ss s) (offs ((allOf ss).take k)) := by
  refine file_ent hk fun f hf => ?_
  obtain ⟨hm, i1, i2, i3⟩ := h.all s (List.mem_of_getElem? hk)
  have hp := h.pl s
  have hsz := h.sz
  have ho := offs_take_le (allOf ss) k
  have ho2 := offs_take_le (allOf ss) (k + 1)
  have hd : s.data.length ≤ offs (allOf ss) := by
    rw [List.take_add_one, hk] at ho2
    have hr := r8_ge s.data.length
    unfold offs at ho2 ⊢
    simp only [Option.toList_some, sumR_snoc] at ho2
    omega
  unfold mayS smallI at hm
  simp only [Bool.and_eq_true, decide_eq_true_eq] at hm
  simp only [entF, List.mem_cons, List.not_mem_nil, or_false] at hf
  rcases hf with rfl | rfl | rfl | rfl | rfl | rfl | rfl | rfl | rfl | rfl <;> (simp only; omega)
theorem Wr.badEnt {ss : List Sec} (h : Wr ss) (k : Nat) (hk : k < ss.length + 2) : badEnt (offs (allOf ss)) k (aOf ss k) (decide (k + 1 = ss.length + 2)) (entAt (fileB ss) (offs (allOf ss)) k) = none ∧ nxtA k (aOf ss k) (entAt (fileB ss) (offs (allOf ss)) k) = aOf ss (k + 1) := by
  cases k with
  | zero =>
    refine ⟨?_, by simp [nxtA, aOf, offs, sumR]⟩
    rw [file_ent0]
    unfold Sh.badEnt
    refine find_range_none fun j hj => ?_
    have : fv (entW.map fun w => (w, 0)) j = 0 := by
      have : ∀ j, j < 10 → fv (entW.map fun w => (w, 0)) j = 0 := by decide
      exact this j hj
    simp [badFld, wrongM, this]
  | succ k =>
    have hal := allOf_len (ss := ss)
    obtain ⟨s, hs⟩ : ∃ s, (allOf ss)[k]? = some s := ⟨_, List.getElem?_eq_getElem (by omega)⟩
    have he := h.ent hs
    obtain ⟨hm, i1, i2, i3⟩ := h.all s (List.mem_of_getElem? hs)
    obtain ⟨a, ha⟩ : ∃ a, a = offs ((allOf ss).take k) := ⟨_, rfl⟩
    obtain ⟨t, ht⟩ : ∃ t, t = offs (allOf ss) := ⟨_, rfl⟩
    have ho2 := offs_take_le (allOf ss) (k + 1)
    have hmod := offs_mod ((allOf ss).take k)
    have hnx : offs ((allOf ss).take (k + 1)) = a + r8 s.data.length := by
      rw [List.take_add_one, hs, ha]
      unfold offs
      simp only [Option.toList_some, sumR_snoc]
      omega
    have hr := r8_ge s.data.length
    have ha0 : aOf ss (k + 1) = a := by rw [ha]; rfl
    have ha1 : aOf ss (k + 1 + 1) = a + r8 s.data.length := by rw [← hnx]; rfl
    rw [he, ha0, ha1, ← ha, ← ht]
    rw [← ha] at hmod
    rw [hnx, ← ht] at ho2
    obtain ⟨F, hF⟩ : ∃ F, F = entF s (plOf ss s) a := ⟨_, rfl⟩
    have f2 : fv F 2 = s.fl.toNat := by rw [hF]; rfl
    have f3 : fv F 3 = 0 := by rw [hF]; rfl
    have f4 : fv F 4 = a := by rw [hF]; rfl
    have f5 : fv F 5 = s.data.length := by rw [hF]; rfl
    have f8 : fv F 8 = s.al.toNat := by rw [hF]; rfl
    have f9 : fv F 9 = s.es.toNat := by rw [hF]; rfl
    rw [← hF]
    refine ⟨?_, by rw [nxtA, if_neg (by omega), f5, r8_add hmod]⟩
    have hwr : ∀ j, j < 10 → wrongM t (k + 1) j (fv F j) a = false := fun j hj => by
      have c : j = 0 ∨ j = 1 ∨ j = 2 ∨ j = 3 ∨ j = 4 ∨ j = 5 ∨ j = 6 ∨ j = 7 ∨ j = 8 ∨ j = 9 := by omega
      rcases c with rfl | rfl | rfl | rfl | rfl | rfl | rfl | rfl | rfl | rfl <;> simp [wrongM, f2, f3, f4, f5, f8, f9] <;> omega
    unfold Sh.badEnt
    refine find_range_none fun j hj => ?_
    unfold badFld
    rw [hwr j hj]
    by_cases hfin : k + 1 + 1 = ss.length + 2
    · have hsO : s = ownS (tabB (tabOf ss)) true := by
        have : k = ss.length := by omega
        rw [this, allOf, List.getElem?_append_right (Nat.le_refl _), Nat.sub_self] at hs
        simpa using hs.symm
      have hlast : ∀ j, j < 10 → j ≠ 0 → j ≠ 4 → j ≠ 5 → fv F j = fv lastE j := fun j hj n0 n4 n5 => by
        have c : j = 0 ∨ j = 1 ∨ j = 2 ∨ j = 3 ∨ j = 4 ∨ j = 5 ∨ j = 6 ∨ j = 7 ∨ j = 8 ∨ j = 9 := by omega
        rw [hF, hsO]
        rcases c with rfl | rfl | rfl | rfl | rfl | rfl | rfl | rfl | rfl | rfl <;> first | rfl | exact absurd rfl n0 | exact absurd rfl n4 | exact absurd rfl n5
      have htt : r8 (a + fv F 5) = t := by
        rw [f5, r8_add hmod, ← hnx, ht, List.take_of_length_le (by omega)]
      by_cases n0 : j = 0
      · simp [n0, htt]
      by_cases n4 : j = 4
      · simp [n4, htt]
      by_cases n5 : j = 5
      · simp [n5, htt]
      simp [hlast j hj n0 n4 n5, htt]
    · have hk' : ¬ k = ss.length := by omega
      simp [hk']
theorem Wr.flds {ss : List Sec} (h : Wr ss) : ∀ m k, k + m = ss.length + 2 → fldsM (fileB ss) (offs (allOf ss)) (ss.length + 2) m k (aOf ss k) = (none, (List.range m).map fun j => aOf ss (k + j))
  | 0, k, _ => rfl
  | m + 1, k, hk => by
    obtain ⟨h1, h2⟩ := h.badEnt k (by omega)
    simp only [fldsM, h1]
    rw [h2, h.flds m (k + 1) (by omega), List.range_succ_eq_map]
    simp only [List.map_cons, Nat.add_zero, List.map_map, Prod.mk.injEq, List.cons.injEq, true_and]
    refine List.map_congr_left fun j _ => ?_
    simp only [Function.comp, Nat.succ_eq_add_one]
    congr 1
    omega
end Go.Sh
