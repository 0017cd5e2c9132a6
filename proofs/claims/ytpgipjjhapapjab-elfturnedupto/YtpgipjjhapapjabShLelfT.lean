/- Files of sections, plain: what is taken is what would be written. -/
import Derived.Test.YtpgipjjhapapjabShLelfS
set_option linter.unusedVariables false
set_option linter.unusedSimpArgs false
namespace Go.Sh
theorem ent_list {F : List Fld} (h : F.map (·.1) = entW) : F = [(4, fv F 0), (4, fv F 1), (8, fv F 2), (8, fv F 3), (8, fv F 4), (8, fv F 5), (4, fv F 6), (4, fv F 7), (8, fv F 8), (8, fv F 9)] := by
  have hl : F.length = 10 := by have := congrArg List.length h; simpa [entW, lastE_len] using this
  match F, hl, h with
  | [⟨a0, b0⟩, ⟨a1, b1⟩, ⟨a2, b2⟩, ⟨a3, b3⟩, ⟨a4, b4⟩, ⟨a5, b5⟩, ⟨a6, b6⟩, ⟨a7, b7⟩, ⟨a8, b8⟩, ⟨a9, b9⟩], _, h =>
    simp only [entW, lastE, entF, List.map_cons, List.map_nil, List.cons.injEq, and_true] at h
    obtain ⟨rfl, rfl, rfl, rfl, rfl, rfl, rfl, rfl, rfl, rfl⟩ := h
    rfl
theorem secsR_len (L : List UInt8) (t : Nat) (ats : List Nat) (out : List Nm) (m : Nat) : (secsR L t ats out m).length = m := by simp [secsR]
theorem secsR_nm {L : List UInt8} {t : Nat} {ats : List Nat} {out : List Nm} : ∀ {m : Nat}, m ≤ out.length → (secsR L t ats out m).map (·.nm) = out.take m
  | 0, _ => by simp [secsR]
  | m + 1, h => by
    rw [secsR_succ, List.map_append, secsR_nm (by omega), List.take_add_one]
    have : out[m]? = some (out.getD m []) := by rw [List.getD_eq_getElem?_getD, List.getElem?_eq_getElem (by omega)]; rfl
    rw [this]
    simp [secR]
theorem readF_parts {L : List UInt8} {ss : List Sec} (h : readF L = .inr ss) : 64 ≤ L.length ∧ headP L = none ∧ ∃ ats out, fldsM L (tabP L) (hv L 14) (hv L 14) 0 64 = (none, ats) ∧ padM L (tabP L) ats (hv L 14 - 1) 1 = none ∧ namesR L (tabP L) (hv L 14) ats = .inr out ∧ ss = secsR L (tabP L) ats out (hv L 14 - 2) := by
  unfold readF at h
  split at h
  · cases h
  rename_i h64
  split at h
  · cases h
  rename_i hP
  split at h
  · cases h
  rename_i ats hf
  split at h
  · cases h
  rename_i hpm
  split at h
  · cases h
  rename_i out hnr
  exact ⟨by omega, hP, ats, out, hf, hpm, hnr, (Sum.inr.inj h).symm⟩
/-- F2: what is taken is the file of what is told. -/
theorem readF_file {L : List UInt8} {ss : List Sec} (h : readF L = .inr ss) : good ss ∧ (∀ x ∈ ss, Sin x) ∧ fileB ss = L := by
  obtain ⟨h64, hP, ats, out, hf, hpm, hnr, hss⟩ := readF_parts h
  obtain ⟨m1, m2, m3, m4, m5, m6, m7, m8, m9⟩ := headP_none hP
  have hhd := hdT_eq h64 m9 m7 rfl m8
  have hhb := head_bytes_eq h64 hhd
  clear h m6 m7 m8 m9 hP hhd
  generalize hv L 14 = n at *
  generalize tabP L = t at *
  obtain ⟨b1, b2, b3⟩ := body_bytes (out := out) hf hpm m1 m5 m4 (by omega)
  obtain ⟨hal, hft⟩ := fldsM_fit m5 hf m4 rfl
  have hbe := fldsM_ok hf
  have hd : ∀ k, k < n → ats[k]? = some (ats.getD k 0) := fun k hk => by
    rw [List.getD_eq_getElem?_getD, List.getElem?_eq_getElem (by omega)]
    rfl
  have hbek : ∀ k, k < n → badEnt t k (ats.getD k 0) (decide (k + 1 = n)) (entAt L t k) = none := fun k hk => by
    have := hbe k _ (hd k hk)
    rwa [Nat.zero_add] at this
  -- the names
  obtain ⟨X, hX⟩ : ∃ X, X = dataAt L t ats (n - 1) := ⟨_, rfl⟩
  unfold namesR at hnr
  rw [← hX] at hnr
  split at hnr
  · cases hnr
  rename_i ns _ hrd
  obtain ⟨r1, r2, r3, r4⟩ := readB_some hrd
  split at hnr
  · cases hnr
  rename_i out' nx hM
  split at hnr
  case isFalse => cases hnr
  rename_i hnx
  obtain rfl := Sum.inr.inj hnr
  obtain ⟨ys, y1, y2, ⟨r, y3⟩, y4, y5⟩ := namesM_ok r3 (sl := []) (nx := 1) (out := []) ⟨ns, rfl⟩ rfl (fun x => by simp [seenI, nmsL, plcs]) hM
  rw [List.nil_append] at y1
  subst y1
  have hXl : X.length = fv (entAt L t (n - 1)) 5 := by
    obtain ⟨q1, q2, q3⟩ := hft (n - 1) _ (hd (n - 1) (by omega))
    rw [Nat.zero_add] at q3
    have := q3 (by omega)
    rw [hX]
    unfold dataAt
    rw [List.length_drop, List.length_take]
    omega
  have hnsE : ns = nmsL out' := by
    have e1 : endAt 1 ns = nx := by rw [hnx, ← hXl, r1, tabB_len]
    rw [y3, endAt_app, ← y4] at e1
    have := endAt_ge (a := nx) (ns := r)
    have hr0 : r = [] := List.eq_nil_of_length_eq_zero (by omega)
    rw [hr0, List.append_nil] at y3
    exact y3
  have hwr : ∀ k i, k < n → i < 10 → badFld t k (ats.getD k 0) (decide (k + 1 = n)) (entAt L t k) i = false := fun k i hk hi => badEnt_none (hbek k hk) hi
  have hw : ∀ k i, k < n → i < 10 → wrongM t k i (fv (entAt L t k) i) (ats.getD k 0) = false := fun k i hk hi => by
    have := hwr k i hk hi
    simp only [badFld, Bool.or_eq_false_iff] at this
    exact this.1.1
  have hz3 : ∀ k, 0 < k → k < n → fv (entAt L t k) 3 = 0 := fun k h0 hk => by
    have := hw k 3 hk (by decide)
    have hk' : ¬ k = 0 := by omega
    simpa [wrongM, hk'] using this
  have hz4 : ∀ k, 0 < k → k < n → fv (entAt L t k) 4 = ats.getD k 0 := fun k h0 hk => by
    have := hw k 4 hk (by decide)
    have hk' : ¬ k = 0 := by omega
    simpa [wrongM, hk'] using this
  have hlast : ∀ i, i < 10 → i ≠ 0 → i ≠ 4 → i ≠ 5 → fv (entAt L t (n - 1)) i = fv lastE i := fun i hi n0 n4 n5 => by
    have := hwr (n - 1) i (by omega) hi
    simp only [badFld, Bool.or_eq_false_iff] at this
    have h2 := this.1.2
    rw [decide_eq_true (show n - 1 + 1 = n by omega), decide_eq_true (show 0 < n - 1 by omega)] at h2
    simpa [n0, n4, n5] using h2
  have hend : r8 (ats.getD (n - 1) 0 + fv (entAt L t (n - 1)) 5) = t := by
    have := hwr (n - 1) 5 (by omega) (by decide)
    simp only [badFld, Bool.or_eq_false_iff] at this
    have h2 := this.2
    rw [decide_eq_true (show n - 1 + 1 = n by omega), decide_eq_true (show 0 < n - 1 by omega)] at h2
    simpa using h2
  have hol : out'.length = n - 1 := y2
  have hown : out'.getD (n - 2) [] = ownNm := by
    obtain ⟨s, hs⟩ : ∃ s, out'[n - 2]? = some s := ⟨_, List.getElem?_eq_getElem (by omega)⟩
    rw [List.getD_eq_getElem?_getD, hs]
    exact (y5 (n - 2) s hs).2 (by omega)
  have hoS : secR L t ats out' (n - 1) = ownS X true := by
    unfold secR
    rw [show n - 1 - 1 = n - 2 by omega, hown, hlast 1 (by decide) (by decide) (by decide) (by decide), hlast 2 (by decide) (by decide) (by decide) (by decide), hlast 6 (by decide) (by decide) (by decide) (by decide), hlast 7 (by decide) (by decide) (by decide) (by decide), hlast 8 (by decide) (by decide) (by decide) (by decide), hlast 9 (by decide) (by decide) (by decide) (by decide), ← hX]
    rfl
  have htab : tabOf ss = ns := by
    have e1 : out' = out'.take (n - 2) ++ [ownNm] := by
      have : out'[n - 2]? = some ownNm := by rw [← hown, List.getD_eq_getElem?_getD, List.getElem?_eq_getElem (by omega)]; rfl
      conv => lhs; rw [← List.take_of_length_le (l := out') (i := n - 2 + 1) (by omega), List.take_add_one, this]
      rfl
    unfold tabOf
    rw [hss, nmsOf_L, secsR_nm (by omega), ← nmsL_snoc, ← e1, hnsE]
  have hall : allOf ss = secsR L t ats out' (n - 1) := by
    unfold allOf
    rw [htab, ← r1, ← hoS, hss]
    conv => rhs; rw [show n - 1 = n - 2 + 1 by omega, secsR_succ]
    rw [show n - 2 + 1 = n - 1 by omega]
  have hofs : sumR (allOf ss) = t - 64 ∧ offs (allOf ss) = t := by
    obtain ⟨q1, q2, q3⟩ := hft (n - 1) _ (hd (n - 1) (by omega))
    have ha := b2 (n - 1) (by omega) (by omega)
    have e : sumR (allOf ss) = sumR (secsR L t ats out' (n - 1 - 1)) + r8 (fv (entAt L t (n - 1)) 5) := by
      rw [hall]
      conv => lhs; rw [show n - 1 = n - 1 - 1 + 1 by omega, secsR_succ, sumR_snoc]
      rw [show n - 1 - 1 + 1 = n - 1 by omega, hoS]
      show _ + r8 X.length = _
      rw [hXl]
    rw [r8_add q2] at hend
    unfold offs
    omega
  have hsl : ss.length = n - 2 := by rw [hss, secsR_len]
  obtain ⟨c1, c2⟩ := b3 (n - 1) (Nat.le_refl _)
  rw [← hall, hofs.1] at c2
  have hpl : ∀ k, 1 ≤ k → k < n → plOf ss (secR L t ats out' k) = fv (entAt L t k) 0 := fun k h1 hk => by
    obtain ⟨s, hs⟩ : ∃ s, out'[k - 1]? = some s := ⟨_, List.getElem?_eq_getElem (by omega)⟩
    have hn : (secR L t ats out' k).nm = s := by
      show out'.getD (k - 1) [] = s
      rw [List.getD_eq_getElem?_getD, hs]
      rfl
    have := (y5 (k - 1) s hs).1
    unfold plOf
    rw [hn, htab, this, show 1 + (k - 1) = k by omega]
    rfl
  have hdl : ∀ k, 1 ≤ k → k < n → (secR L t ats out' k).data.length = fv (entAt L t k) 5 := fun k h1 hk => by
    obtain ⟨q1, q2, q3⟩ := hft k _ (hd k hk)
    rw [Nat.zero_add] at q3
    have := q3 (by omega)
    show (dataAt L t ats k).length = _
    unfold dataAt
    rw [List.length_drop, List.length_take]
    omega
  have hent : ∀ k, 1 ≤ k → k < n → entF (secR L t ats out' k) (plOf ss (secR L t ats out' k)) (64 + sumR (secsR L t ats out' (k - 1))) = entAt L t k := fun k h1 hk => by
    rw [hpl k h1 hk, ← b2 k h1 hk]
    refine Eq.trans ?_ (ent_list (entAt_wid L t k)).symm
    have e5 := hdl k h1 hk
    have e3 := hz3 k h1 hk
    have e4 := hz4 k h1 hk
    unfold entF
    rw [e5, e3, e4]
    simp [secR]
  have hents : ∀ m, m ≤ n - 1 → entB (plOf ss) 64 (secsR L t ats out' m) = ((List.range m).map fun j => laidF (entAt L t (j + 1))).flatten := by
    intro m
    induction m with
    | zero => intro _; rfl
    | succ m ih =>
      intro hm
      have := hent (m + 1) (by omega) (by omega)
      rw [Nat.add_sub_cancel] at this
      rw [secsR_succ, entB_snoc, ih (by omega), this, List.range_succ, List.map_append, List.flatten_append]
      simp
  have hz : laidF (entAt L t 0) = List.replicate 64 0 := by
    have h0 : ∀ i, i < 10 → fv (entAt L t 0) i = 0 := fun i hi => by
      have := hw 0 i (by omega) hi
      simpa [wrongM] using this
    rw [ent_list (entAt_wid L t 0), h0 0 (by decide), h0 1 (by decide), h0 2 (by decide), h0 3 (by decide), h0 4 (by decide), h0 5 (by decide), h0 6 (by decide), h0 7 (by decide), h0 8 (by decide), h0 9 (by decide)]
    rfl
  have htb : List.replicate 64 0 ++ entB (plOf ss) 64 (allOf ss) = L.drop t := by
    have h1 := tab_bytes m3 n (Nat.le_refl _)
    rw [List.take_of_length_le (by rw [List.length_drop]; omega)] at h1
    rw [h1, hall, hents _ (Nat.le_refl _)]
    conv => rhs; rw [show n = n - 1 + 1 by omega, List.range_succ_eq_map]
    rw [List.map_cons, List.flatten_cons, hz, List.map_map]
    rfl
  have hfile : fileB ss = L := by
    unfold fileB
    rw [hofs.2, hsl, show n - 2 + 2 = n by omega, ← hhb, c2, htb]
    rw [show L.drop t = (L.drop 64).drop (t - 64) by rw [List.drop_drop]; congr 1; omega, List.append_assoc, List.take_append_drop, List.take_append_drop]
  have hmem : ∀ x ∈ ss, ∃ k, 1 ≤ k ∧ k < n - 1 ∧ x = secR L t ats out' k := fun x hx => by
    rw [hss] at hx
    simp only [secsR, List.mem_map, List.mem_range] at hx
    obtain ⟨i, h1, rfl⟩ := hx
    exact ⟨i + 1, by omega, by omega, rfl⟩
  refine ⟨⟨by omega, fun x hx => ?_⟩, fun x hx => ?_, hfile⟩
  · obtain ⟨k, k1, k2, rfl⟩ := hmem x hx
    obtain ⟨s, hs⟩ : ∃ s, out'[k - 1]? = some s := ⟨_, List.getElem?_eq_getElem (by omega)⟩
    have hn : (secR L t ats out' k).nm = s := by
      show out'.getD (k - 1) [] = s
      rw [List.getD_eq_getElem?_getD, hs]
      rfl
    obtain ⟨i, hi, _⟩ := findNm_some (y5 (k - 1) s hs).1
    have hok := r2 s (List.mem_of_getElem? hi)
    have f1 := fv_lt (L := L) (t := t) (k := k) (i := 1) (w := 4) rfl
    have f6 := fv_lt (L := L) (t := t) (k := k) (i := 6) (w := 4) rfl
    have f7 := fv_lt (L := L) (t := t) (k := k) (i := 7) (w := 4) rfl
    have g1 : (secR L t ats out' k).ty = (fv (entAt L t k) 1 : Int) := rfl
    have g6 : (secR L t ats out' k).li = (fv (entAt L t k) 6 : Int) := rfl
    have g7 : (secR L t ats out' k).inf = (fv (entAt L t k) 7 : Int) := rfl
    have g2 : (secR L t ats out' k).fl = (fv (entAt L t k) 2 : Int) := rfl
    have g8 : (secR L t ats out' k).al = (fv (entAt L t k) 8 : Int) := rfl
    have g9 : (secR L t ats out' k).es = (fv (entAt L t k) 9 : Int) := rfl
    unfold mayS smallI
    rw [hn, hok, g1, g2, g6, g7, g8, g9]
    simp only [Bool.true_and, Bool.and_eq_true, decide_eq_true_eq]
    omega
  · obtain ⟨k, k1, k2, rfl⟩ := hmem x hx
    have f := fun i hi => fv_fit (hbek k (by omega)) k1 (i := i) hi
    have f2 := f 2 (by simp)
    have f8 := f 8 (by simp)
    have f9 := f 9 (by simp)
    have g2 : (secR L t ats out' k).fl = (fv (entAt L t k) 2 : Int) := rfl
    have g8 : (secR L t ats out' k).al = (fv (entAt L t k) 8 : Int) := rfl
    have g9 : (secR L t ats out' k).es = (fv (entAt L t k) 9 : Int) := rfl
    unfold Sin
    rw [g2, g8, g9]
    omega
end Go.Sh
