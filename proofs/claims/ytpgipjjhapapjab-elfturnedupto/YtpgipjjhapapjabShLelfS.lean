/- Files of sections, plain: the names. -/
import Derived.Test.YtpgipjjhapapjabShLelfR
set_option linter.unusedVariables false
set_option linter.unusedSimpArgs false
namespace Go.Sh
def nmsL (l : List Nm) : List Nm := l.foldl addNm []
theorem nmsL_snoc (l : List Nm) (s : Nm) : nmsL (l ++ [s]) = addNm (nmsL l) s := by simp [nmsL]
theorem nmsOf_L (l : List Sec) : nmsOf l = nmsL (l.map (·.nm)) := by
  unfold nmsOf nmsL
  rw [List.foldl_map]
theorem endAt_take_lt {a : Nat} {ns : List Nm} {i j : Nat} (h : i < j) (hj : j ≤ ns.length) : endAt a (ns.take i) < endAt a (ns.take j) := by
  have e : ns.take j = ns.take i ++ (ns.drop i).take (j - i) := by
    conv => lhs; rw [show j = i + (j - i) by omega, List.take_add]
  rw [e, endAt_app]
  have := endAt_ge (a := endAt a (ns.take i)) (ns := (ns.drop i).take (j - i))
  rw [List.length_take, List.length_drop] at this
  omega
theorem endAt_take_inj {a : Nat} {ns : List Nm} {i j : Nat} (hi : i ≤ ns.length) (hj : j ≤ ns.length) (h : endAt a (ns.take i) = endAt a (ns.take j)) : i = j := by
  rcases Nat.lt_trichotomy i j with h1 | h1 | h1
  · have := endAt_take_lt (a := a) h1 hj
    omega
  · exact h1
  · have := endAt_take_lt (a := a) h1 hi
    omega
theorem namesM_ok {ns : List Nm} {L : List UInt8} {t n : Nat} (hnd : ns.Nodup) : ∀ {m k : Nat} {sl : List (Nat × Nat)} {nx nx' : Nat} {out out' : List Nm}, (∃ r, ns = nmsL out ++ r) → nx = endAt 1 (nmsL out) → (∀ x, seenI sl x = true ↔ x ∈ plcs 1 (nmsL out)) → namesM ns L t n m k sl nx out = .inr (out', nx') →
    ∃ ys, out' = out ++ ys ∧ ys.length = m ∧ (∃ r, ns = nmsL out' ++ r) ∧ nx' = endAt 1 (nmsL out') ∧ ∀ (j : Nat) (s : Nm), ys[j]? = some s → findNm s 1 ns = some (fv (entAt L t (k + j)) 0) ∧ (k + j + 1 = n → s = ownNm)
  | 0, k, sl, nx, nx', out, out', hr, hx, hsn, h => by
    simp only [namesM, Sum.inr.injEq, Prod.mk.injEq] at h
    obtain ⟨rfl, rfl⟩ := h
    exact ⟨[], by simp, rfl, hr, hx, fun j s hj => by simp at hj⟩
  | m + 1, k, sl, nx, nx', out, out', hr, hx, hsn, h => by
    obtain ⟨r, hr⟩ := hr
    cases hs : nmOf ns (fv (entAt L t k) 0) with
    | none =>
      simp only [namesM, hs] at h
      cases h
    | some s =>
      obtain ⟨pl, hpl⟩ : ∃ pl, pl = fv (entAt L t k) 0 := ⟨_, rfl⟩
      rw [← hpl] at hs
      have hna : nmAt pl 1 ns = some s := by
        unfold nmOf at hs
        split at hs
        · cases hs
        · exact hs
      obtain ⟨i, hi, hpi⟩ := nmAt_some hna
      have hil : i < ns.length := (List.getElem?_eq_some_iff.1 hi).1
      have hfd : findNm s 1 ns = some pl := by rw [hpi]; exact findNm_at hnd hi
      have hNl : (nmsL out).length ≤ ns.length := by rw [hr, List.length_append]; omega
      have hNt : ns.take (nmsL out).length = nmsL out := by
        conv => lhs; rw [hr]
        rw [List.take_left' rfl]
      by_cases c1 : (seenI sl pl = false ∧ pl ≠ nx) ∨ (k + 1 = n ∧ s ≠ ownNm)
      · simp only [namesM, ← hpl, hs, if_pos c1] at h
        cases h
      have hown : k + 1 = n → s = ownNm := fun hk => Classical.byContradiction fun e => c1 (.inr ⟨hk, e⟩)
      have fin : ∀ (sl2 : List (Nat × Nat)) (nx2 : Nat), namesM ns L t n m (k + 1) sl2 nx2 (out ++ [s]) = .inr (out', nx') → (∃ r, ns = nmsL (out ++ [s]) ++ r) → nx2 = endAt 1 (nmsL (out ++ [s])) → (∀ x, seenI sl2 x = true ↔ x ∈ plcs 1 (nmsL (out ++ [s]))) →
          ∃ ys, out' = out ++ ys ∧ ys.length = m + 1 ∧ (∃ r, ns = nmsL out' ++ r) ∧ nx' = endAt 1 (nmsL out') ∧ ∀ (j : Nat) (s : Nm), ys[j]? = some s → findNm s 1 ns = some (fv (entAt L t (k + j)) 0) ∧ (k + j + 1 = n → s = ownNm) := fun sl2 nx2 g1 g2 g3 g4 => by
        obtain ⟨ys, q1, q2, q3, q4, q5⟩ := namesM_ok hnd g2 g3 g4 g1
        refine ⟨s :: ys, by rw [q1]; simp, by simp [q2], q3, q4, fun j s' hj => ?_⟩
        cases j with
        | zero =>
          obtain rfl : s = s' := by simpa using hj
          exact ⟨by rw [Nat.add_zero, ← hpl]; exact hfd, hown⟩
        | succ j =>
          have := q5 j s' (by simpa using hj)
          rw [show k + (j + 1) = k + 1 + j by omega]
          exact this
      by_cases c2 : seenI sl pl = true
      · simp only [namesM, ← hpl, hs, if_neg c1, if_pos c2] at h
        obtain ⟨i', s', h1, h2⟩ := plcs_mem.1 ((hsn pl).1 c2)
        have hi'l : i' < (nmsL out).length := (List.getElem?_eq_some_iff.1 h1).1
        have h3 : ns[i']? = some s' := by rw [hr, List.getElem?_append_left hi'l]; exact h1
        have h4 : (nmsL out).take i' = ns.take i' := by rw [← hNt, List.take_take]; congr 1; omega
        rw [h4] at h2
        have h5 : i' = i := endAt_take_inj (by omega) (by omega) (h2.symm.trans hpi)
        subst h5
        have hss : s' = s := by rw [hi] at h3; exact (Option.some.inj h3).symm
        have hmem : s ∈ nmsL out := by rw [← hss]; exact List.mem_of_getElem? h1
        have hsame : nmsL (out ++ [s]) = nmsL out := by rw [nmsL_snoc, addNm, if_pos hmem]
        exact fin sl nx h (by rw [hsame]; exact ⟨r, hr⟩) (by rw [hsame]; exact hx) (by rw [hsame]; exact hsn)
      · simp only [namesM, ← hpl, hs, if_neg c1, if_neg c2] at h
        have hpn : pl = nx := Classical.byContradiction fun e => c1 (.inl ⟨by simpa using c2, e⟩)
        have h5 : i = (nmsL out).length := endAt_take_inj (by omega) hNl (by rw [← hpi, hpn, hx, hNt])
        have hr2 : ∃ r', r = s :: r' := by
          cases r with
          | nil =>
            rw [List.append_nil] at hr
            rw [hr] at hil
            omega
          | cons y r' =>
            rw [hr, List.getElem?_append_right (by omega), h5, Nat.sub_self] at hi
            obtain rfl : y = s := by simpa using hi
            exact ⟨r', rfl⟩
        obtain ⟨r', rfl⟩ := hr2
        have hnm : s ∉ nmsL out := by
          rw [hr] at hnd
          have := (List.nodup_append.1 hnd).2.2
          intro hm
          exact this s hm s (List.mem_cons_self ..) rfl
        have hsame : nmsL (out ++ [s]) = nmsL out ++ [s] := by rw [nmsL_snoc, addNm, if_neg hnm]
        refine fin _ _ h ⟨r', by rw [hsame, hr]; simp⟩ (by rw [hsame, endAt_snoc, ← hx, hpn]) fun x => ?_
        rw [hsame, plcs_app]
        have e1 : seenI (sl ++ [(pl, k)]) x = (seenI sl x || (pl == x)) := by simp [seenI]
        rw [e1, Bool.or_eq_true, List.mem_append, hsn x]
        have e2 : plcs (endAt 1 (nmsL out)) [s] = [endAt 1 (nmsL out)] := rfl
        rw [e2, ← hx, ← hpn]
        rw [beq_iff_eq, List.mem_singleton]
        exact or_congr Iff.rfl ⟨Eq.symm, Eq.symm⟩
end Go.Sh
