/- Files of sections, plain: the names of a file that was written. -/
import Derived.Test.YtpgipjjhapapjabShLelfX
set_option linter.unusedVariables false
set_option linter.unusedSimpArgs false
namespace Go.Sh
theorem nmsL_app (l : List Nm) : ∀ r, ∃ x, nmsL (l ++ r) = nmsL l ++ x := by
  intro r
  unfold nmsL
  rw [List.foldl_append]
  generalize l.foldl addNm [] = acc
  induction r generalizing acc with
  | nil => exact ⟨[], by simp⟩
  | cons s r ih =>
    obtain ⟨x, hx⟩ := addNm_app acc s
    obtain ⟨y, hy⟩ := ih (addNm acc s)
    exact ⟨x ++ y, by rw [List.foldl_cons, hy, hx, List.append_assoc]⟩
theorem addNm_nodup {ns : List Nm} {s : Nm} (h : ns.Nodup) : (addNm ns s).Nodup := by
  unfold addNm
  split
  · exact h
  · rename_i hs
    rw [List.nodup_append]
    refine ⟨h, by simp, fun a ha b hb => ?_⟩
    obtain rfl : b = s := by simpa using hb
    rintro rfl
    exact hs ha
theorem foldl_nodup : ∀ (l : List Nm) (acc : List Nm), acc.Nodup → (l.foldl addNm acc).Nodup
  | [], acc, h => h
  | s :: r, acc, h => foldl_nodup r _ (addNm_nodup h)
theorem foldl_mem : ∀ (l : List Nm) (acc : List Nm) (x : Nm), x ∈ l.foldl addNm acc ↔ x ∈ acc ∨ x ∈ l
  | [], acc, x => by simp
  | s :: r, acc, x => by
    rw [List.foldl_cons, foldl_mem r]
    have : x ∈ addNm acc s ↔ x ∈ acc ∨ x = s := by
      unfold addNm
      split
      · rename_i hs
        exact ⟨.inl, fun h => by rcases h with h | rfl; exact h; exact hs⟩
      · simp
    rw [this, List.mem_cons, or_assoc]
def nmsA (ss : List Sec) : List Nm := (allOf ss).map (·.nm)
theorem tabOf_L (ss : List Sec) : tabOf ss = nmsL (nmsA ss) := by
  unfold tabOf nmsA allOf
  rw [nmsOf_L, ← nmsL_snoc, List.map_append]
  rfl
theorem tab_nodup (ss : List Sec) : (tabOf ss).Nodup := by rw [tabOf_L]; exact foldl_nodup _ _ List.nodup_nil
theorem tab_mem (ss : List Sec) (x : Nm) : x ∈ tabOf ss ↔ x ∈ nmsA ss := by
  rw [tabOf_L]
  unfold nmsL
  rw [foldl_mem]
  simp
theorem Wr.tab_ok {ss : List Sec} (h : Wr ss) : ∀ s ∈ tabOf ss, okNm s = true := fun s hs => by
  rw [tab_mem] at hs
  simp only [nmsA, List.mem_map] at hs
  obtain ⟨x, hx, rfl⟩ := hs
  have hm := (h.all x hx).1
  unfold mayS at hm
  simp only [Bool.and_eq_true] at hm
  exact hm.1.1.1.1.1.1
theorem Wr.names {ss : List Sec} (h : Wr ss) : ∀ (m k : Nat) (sl : List (Nat × Nat)) (nx : Nat), 1 ≤ k → k + m = ss.length + 2 → nx = endAt 1 (nmsL ((nmsA ss).take (k - 1))) → (∀ x, seenI sl x = true ↔ x ∈ plcs 1 (nmsL ((nmsA ss).take (k - 1)))) →
    namesM (tabOf ss) (fileB ss) (offs (allOf ss)) (ss.length + 2) m k sl nx ((nmsA ss).take (k - 1)) = .inr (nmsA ss, endAt 1 (tabOf ss))
  | 0, k, sl, nx, hk, hm, hx, hsn => by
    have hl : (nmsA ss).length = ss.length + 1 := by simp [nmsA, allOf_len]
    have e : (nmsA ss).take (k - 1) = nmsA ss := List.take_of_length_le (by omega)
    rw [e] at hx ⊢
    rw [namesM, hx, tabOf_L]
  | m + 1, k + 1, sl, nx, hk, hm, hx, hsn => by
    have hl : (nmsA ss).length = ss.length + 1 := by simp [nmsA, allOf_len]
    rw [Nat.add_sub_cancel] at hx hsn ⊢
    obtain ⟨s, hs⟩ : ∃ s, (allOf ss)[k]? = some s := ⟨_, List.getElem?_eq_getElem (by rw [allOf_len]; omega)⟩
    have hsn' : (nmsA ss)[k]? = some s.nm := by simp [nmsA, hs]
    have hpl : fv (entAt (fileB ss) (offs (allOf ss)) (k + 1)) 0 = plOf ss s := by rw [h.ent hs]; rfl
    have hmem : s.nm ∈ tabOf ss := (tab_mem ss _).2 (List.mem_of_getElem? hsn')
    obtain ⟨i, hi⟩ := List.mem_iff_getElem?.1 hmem
    have hf := findNm_at (a := 1) (tab_nodup ss) hi
    obtain ⟨pl, hp⟩ : ∃ pl, pl = plOf ss s := ⟨_, rfl⟩
    have hpe : pl = endAt 1 ((tabOf ss).take i) := by rw [hp, plOf, hf]; rfl
    have hge := endAt_ge (a := 1) (ns := (tabOf ss).take i)
    have hno : nmOf (tabOf ss) pl = some s.nm := by
      unfold nmOf
      rw [if_neg (by omega), hpe]
      exact nmAt_at hi
    obtain ⟨O, hO⟩ : ∃ O, O = (nmsA ss).take k := ⟨_, rfl⟩
    rw [← hO] at hx hsn ⊢
    have hO1 : (nmsA ss).take (k + 1) = O ++ [s.nm] := by rw [List.take_add_one, hsn', hO]; rfl
    obtain ⟨r, hr⟩ := nmsL_app (O ++ [s.nm]) ((nmsA ss).drop (k + 1))
    rw [← hO1, List.take_append_drop, ← tabOf_L, hO1, nmsL_snoc] at hr
    have hown : ¬ (k + 1 + 1 = ss.length + 2 ∧ s.nm ≠ ownNm) := by
      rintro ⟨e, hne⟩
      apply hne
      have : k = ss.length := by omega
      rw [this, allOf, List.getElem?_append_right (Nat.le_refl _), Nat.sub_self] at hs
      obtain rfl : ownS (tabB (tabOf ss)) true = s := by simpa using hs
      rfl
    have hil : i < (tabOf ss).length := (List.getElem?_eq_some_iff.1 hi).1
    simp only [namesM, hpl, ← hp, hno]
    by_cases hin : s.nm ∈ nmsL O
    · have hadd : addNm (nmsL O) s.nm = nmsL O := by simp [addNm, hin]
      rw [hadd] at hr
      have hsee : seenI sl pl = true := by
        rw [hsn, plcs_mem]
        obtain ⟨i', hi'⟩ := List.mem_iff_getElem?.1 hin
        have hi'l := (List.getElem?_eq_some_iff.1 hi').1
        have h3 : (tabOf ss)[i']? = some s.nm := by rw [hr, List.getElem?_append_left hi'l]; exact hi'
        have h4 := findNm_at (a := 1) (tab_nodup ss) h3
        rw [hf] at h4
        refine ⟨i', s.nm, hi', ?_⟩
        rw [hpe, Option.some.inj h4, hr, List.take_append_of_le_length (by omega)]
      rw [if_neg (by rintro (⟨e, _⟩ | e); rw [hsee] at e; cases e; exact hown e), if_pos hsee]
      have := h.names m (k + 1 + 1) sl nx (by omega) (by omega) (by rw [Nat.add_sub_cancel, hO1, nmsL_snoc, hadd]; exact hx) (by rw [Nat.add_sub_cancel, hO1, nmsL_snoc, hadd]; exact hsn)
      rw [Nat.add_sub_cancel, hO1] at this
      exact this
    · have hadd : addNm (nmsL O) s.nm = nmsL O ++ [s.nm] := by simp [addNm, hin]
      rw [hadd, List.append_assoc] at hr
      have h3 : (tabOf ss)[(nmsL O).length]? = some s.nm := by rw [hr, List.getElem?_append_right (Nat.le_refl _), Nat.sub_self]; rfl
      have h4 := findNm_at (a := 1) (tab_nodup ss) h3
      rw [hf] at h4
      have hpn : pl = endAt 1 (nmsL O) := by
        rw [hpe, Option.some.inj h4, hr, List.take_left' rfl]
      have hsee : ¬ seenI sl pl = true := by
        rw [hsn, plcs_mem]
        rintro ⟨i', s', h5, h6⟩
        have hi'l := (List.getElem?_eq_some_iff.1 h5).1
        have h7 := endAt_take_lt (a := 1) (ns := nmsL O) hi'l (Nat.le_refl _)
        rw [List.take_of_length_le (Nat.le_refl _)] at h7
        omega
      rw [if_neg (by rintro (⟨_, e⟩ | e); exact e (hpn.trans hx.symm); exact hown e), if_neg hsee]
      have hN : nmsL (O ++ [s.nm]) = nmsL O ++ [s.nm] := by rw [nmsL_snoc, hadd]
      have := h.names m (k + 1 + 1) (sl ++ [(pl, k + 1)]) (pl + s.nm.length + 1) (by omega) (by omega) (by rw [Nat.add_sub_cancel, hO1, hN, endAt_snoc, hpn]) (fun x => by
        rw [Nat.add_sub_cancel, hO1, hN, plcs_app]
        have e1 : seenI (sl ++ [(pl, k + 1)]) x = (seenI sl x || (pl == x)) := by simp [seenI]
        have e2 : plcs (endAt 1 (nmsL O)) [s.nm] = [endAt 1 (nmsL O)] := rfl
        rw [e1, Bool.or_eq_true, List.mem_append, hsn x, e2, ← hpn, beq_iff_eq, List.mem_singleton]
        exact or_congr Iff.rfl ⟨Eq.symm, Eq.symm⟩)
      rw [Nat.add_sub_cancel, hO1] at this
      exact this
end Go.Sh
