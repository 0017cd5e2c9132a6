/- Files of sections, plain: fields read back; places of faults. -/
import Derived.Test.YtpgipjjhapapjabShLelfO
set_option linter.unusedVariables false
set_option linter.unusedSimpArgs false
namespace Go.Sh
theorem lowB_cons (w v : Nat) : lowB (w + 1) v = UInt8.ofNat v :: lowB w (v / 256) := by
  unfold lowB
  rw [List.range_succ_eq_map, List.map_cons, List.map_map]
  simp only [Nat.pow_zero, Nat.div_one, List.cons.injEq, true_and]
  refine List.map_congr_left fun i _ => ?_
  simp only [Function.comp, Nat.pow_succ, Nat.succ_eq_add_one]
  rw [Nat.mul_comm, Nat.div_div_eq_div_mul]
theorem getN_lowB : ∀ (w v : Nat), v < 256 ^ w → getN (lowB w v) = v
  | 0, v, h => by
    have : v = 0 := by simpa using h
    subst this
    rfl
  | w + 1, v, h => by
    rw [lowB_cons, getN, getN_lowB w (v / 256) (by rw [Nat.pow_succ] at h; omega), UInt8.toNat_ofNat']
    omega
theorem lowB_getN : ∀ (L : List UInt8), lowB L.length (getN L) = L
  | [] => rfl
  | b :: r => by
    rw [List.length_cons, lowB_cons, getN]
    have hb := b.toNat_lt
    have h1 : (b.toNat + 256 * getN r) / 256 = getN r := by omega
    have h2 : UInt8.ofNat (b.toNat + 256 * getN r) = b := by
      apply UInt8.toNat_inj.1
      rw [UInt8.toNat_ofNat']
      omega
    rw [h1, h2, lowB_getN r]
/-- Fields laid and told. -/
theorem told_laid : ∀ (fs : List Fld) (r : List UInt8), (∀ f ∈ fs, f.2 < 256 ^ f.1) → toldF (laidF fs ++ r) (fs.map (·.1)) = fs
  | [], r, _ => rfl
  | (w, v) :: fs, r, h => by
    have h1 := h (w, v) (List.mem_cons_self ..)
    have e : laidF ((w, v) :: fs) ++ r = lowB w v ++ (laidF fs ++ r) := by simp [laidF]
    rw [List.map_cons, toldF, e, List.take_left' (lowB_len w v), List.drop_left' (lowB_len w v), getN_lowB w v h1, told_laid fs r fun f hf => h f (List.mem_cons_of_mem _ hf)]
/-- Fields told and laid. -/
theorem laid_told : ∀ (ws : List Nat) (L : List UInt8), ws.sum ≤ L.length → laidF (toldF L ws) = L.take ws.sum
  | [], L, _ => by simp [toldF, laidF]
  | w :: ws, L, h => by
    rw [List.sum_cons] at h
    have e : laidF (toldF L (w :: ws)) = lowB w (getN (L.take w)) ++ laidF (toldF (L.drop w) ws) := by simp [toldF, laidF]
    have hl : (L.take w).length = w := by rw [List.length_take]; omega
    have e2 : lowB w (getN (L.take w)) = L.take w := by
      conv => lhs; rw [← hl]
      rw [hl]
      have := lowB_getN (L.take w)
      rwa [hl] at this
    rw [e, e2, laid_told ws (L.drop w) (by rw [List.length_drop]; omega), List.sum_cons, List.take_add]
theorem offF_lt {i : Nat} (h : i < 10) : offF i ≤ 60 := by
  have : ∀ i, i < 10 → offF i ≤ 60 := by decide
  exact this i h
theorem fldsM_place {L : List UInt8} {t n : Nat} : ∀ {m k a q : Nat} {ats : List Nat}, fldsM L t n m k a = (some q, ats) → q < t + 64 * (k + m)
  | 0, k, a, q, ats, h => by simp [fldsM] at h
  | m + 1, k, a, q, ats, h => by
    simp only [fldsM] at h
    split at h
    · rename_i i hbe
      simp only [Prod.mk.injEq, Option.some.injEq] at h
      have hi : i < 10 := by
        unfold badEnt at hbe
        exact List.mem_range.1 (List.mem_of_find?_eq_some hbe)
      have := offF_lt hi
      omega
    · simp only [Prod.mk.injEq] at h
      have := fldsM_place (m := m) (k := k + 1) (a := nxtA k a (entAt L t k)) (q := q) (ats := (fldsM L t n m (k + 1) (nxtA k a (entAt L t k))).2) (by rw [← h.1])
      omega
theorem padIn_place {L : List UInt8} : ∀ {m e q : Nat}, padIn L m e = some q → q < e + m
  | 0, e, q, h => by simp [padIn] at h
  | m + 1, e, q, h => by
    simp only [padIn] at h
    split at h
    · obtain rfl := Option.some.inj h
      omega
    · have := padIn_place h
      omega
theorem padM_place {L : List UInt8} {t : Nat} {ats : List Nat} (ht : t % 8 = 0) : ∀ {m k q : Nat}, (∀ j b, ats[j]? = some b → 0 < j → b + fv (entAt L t j) 5 ≤ t) → 1 ≤ k → k + m ≤ ats.length → padM L t ats m k = some q → q ≤ t
  | 0, k, q, _, _, _, h => by simp [padM] at h
  | m + 1, k, q, hfit, hk, hl, h => by
    simp only [padM] at h
    obtain ⟨b, hb⟩ : ∃ b, ats[k]? = some b := ⟨_, List.getElem?_eq_getElem (by omega)⟩
    have hf := hfit k b hb (by omega)
    have hg : ats.getD k 0 = b := by rw [List.getD_eq_getElem?_getD, hb]; rfl
    rw [hg] at h
    split at h
    · rename_i q' hp
      obtain rfl := Option.some.inj h
      have := padIn_place hp
      have h2 : r8 (b + fv (entAt L t k) 5) ≤ t := by unfold r8; omega
      have h3 := r8_ge (b + fv (entAt L t k) 5)
      omega
    · exact padM_place ht hfit (by omega) (by omega) h
theorem nmAt_end {p : Nat} {ns : List Nm} {s : Nm} (h : nmAt p 1 ns = some s) : p + s.length + 1 ≤ endAt 1 ns := by
  obtain ⟨i, h1, rfl⟩ := nmAt_some h
  have htk : ns.take (i + 1) = ns.take i ++ [s] := by rw [List.take_add_one, h1]; rfl
  have : endAt 1 (ns.take (i + 1)) ≤ endAt 1 ns := by
    conv => rhs; rw [← List.take_append_drop (i + 1) ns, endAt_app]
    exact Nat.le_trans (Nat.le_add_right _ _) endAt_ge
  rw [htk, endAt_snoc] at this
  exact this
theorem namesM_place {ns : List Nm} {L : List UInt8} {t n : Nat} : ∀ {m k nx : Nat} {sl : List (Nat × Nat)} {out : List Nm}, nx ≤ endAt 1 ns → match namesM ns L t n m k sl nx out with
    | .inl b => b < t + 64 * (k + m)
    | .inr (_, nx') => nx' ≤ endAt 1 ns
  | 0, k, nx, sl, out, h => by simpa [namesM] using h
  | m + 1, k, nx, sl, out, h => by
    cases hs : nmOf ns (fv (entAt L t k) 0) with
    | none =>
      simp only [namesM, hs]
      omega
    | some s =>
      have hpe : fv (entAt L t k) 0 + s.length + 1 ≤ endAt 1 ns := by
        unfold nmOf at hs
        split at hs
        · cases hs
        · exact nmAt_end hs
      by_cases c1 : (seenI sl (fv (entAt L t k) 0) = false ∧ fv (entAt L t k) 0 ≠ nx) ∨ (k + 1 = n ∧ s ≠ ownNm)
      · simp only [namesM, hs, if_pos c1]
        omega
      · by_cases c2 : seenI sl (fv (entAt L t k) 0) = true
        · have := namesM_place (ns := ns) (L := L) (t := t) (n := n) (m := m) (k := k + 1) (sl := sl) (out := out ++ [s]) h
          rw [show k + (m + 1) = k + 1 + m by omega]
          simp only [namesM, hs, if_neg c1, if_pos c2]
          exact this
        · have := namesM_place (ns := ns) (L := L) (t := t) (n := n) (m := m) (k := k + 1) (sl := sl ++ [(fv (entAt L t k) 0, k)]) (out := out ++ [s]) hpe
          rw [show k + (m + 1) = k + 1 + m by omega]
          simp only [namesM, hs, if_neg c1, if_neg c2]
          exact this
/-- F3: where a file is refused, the place is one of its bytes' or its end. -/
theorem readF_place {L : List UInt8} {q : Nat} {e : Int} (h : readF L = .inl (q, e)) : q ≤ L.length := by
  unfold readF at h
  split at h
  · simp only [Sum.inl.injEq, Prod.mk.injEq] at h
    omega
  rename_i h64
  split at h
  · rename_i i hi
    simp only [Sum.inl.injEq, Prod.mk.injEq] at h
    unfold headP at hi
    have := List.mem_range.1 (List.mem_of_find?_eq_some hi)
    omega
  rename_i hP
  obtain ⟨m1, m2, m3, m4, m5, _, _, _, _⟩ := headP_none hP
  generalize hv L 14 = n at m1 m2 m3 h
  generalize tabP L = t at m3 m4 m5 h
  split at h
  · rename_i q' _ hf
    simp only [Sum.inl.injEq, Prod.mk.injEq] at h
    have := fldsM_place hf
    omega
  rename_i ats hf
  obtain ⟨hal, hft⟩ := fldsM_fit m5 hf m4 rfl
  have hfit : ∀ k b, ats[k]? = some b → 0 < k → b + fv (entAt L (t) k) 5 ≤ t := fun k b hb hk => by
    have := (hft k b hb).2.2
    rw [Nat.zero_add] at this
    exact this hk
  split at h
  · rename_i q' hp
    simp only [Sum.inl.injEq, Prod.mk.injEq] at h
    have := padM_place m5 hfit (Nat.le_refl _) (by omega) hp
    omega
  split at h
  · rename_i b hb
    simp only [Sum.inl.injEq, Prod.mk.injEq] at h
    obtain ⟨b0, hb0⟩ : ∃ b0, ats[n - 1]? = some b0 := ⟨_, List.getElem?_eq_getElem (by omega)⟩
    have hg : ats.getD (n - 1) 0 = b0 := by rw [List.getD_eq_getElem?_getD, hb0]; rfl
    have hfx := hfit _ b0 hb0 (by omega)
    obtain ⟨x, hx⟩ : ∃ x, x = fv (entAt L (t) (n - 1)) 5 := ⟨_, rfl⟩
    have hXl : (dataAt L (t) ats (n - 1)).length = x := by
      unfold dataAt
      rw [hg, ← hx, List.length_drop, List.length_take]
      rw [← hx] at hfx
      omega
    unfold namesR at hb
    rw [hg, ← hx] at hb
    rw [← hx] at hfx
    split at hb
    · rename_i q' hr
      have := readB_place hr
      rw [hXl] at this
      simp only [Sum.inl.injEq] at hb
      omega
    · rename_i ns _ hr
      obtain ⟨r1, r2, r3, r4⟩ := readB_some hr
      have hend : endAt 1 ns = x := by rw [← tabB_len, ← r1, hXl]
      have h1e : 1 ≤ endAt 1 ns := Nat.le_trans (Nat.le_add_right 1 _) endAt_ge
      have hnp := namesM_place (ns := ns) (L := L) (t := t) (n := n) (m := n - 1) (k := 1) (nx := 1) (sl := []) (out := []) h1e
      split at hb
      · rename_i b' hM
        rw [hM] at hnp
        simp only at hnp
        simp only [Sum.inl.injEq] at hb
        omega
      · rename_i out nx hM
        rw [hM] at hnp
        simp only at hnp
        split at hb
        · cases hb
        · simp only [Sum.inl.injEq] at hb
          omega
  · cases h
end Go.Sh
