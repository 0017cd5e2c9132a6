/- Files of sections, plain: fields read back; places of faults. -/
import Derived.Test.YtpgipjjhapapjabShLelf3
set_option linter.unusedVariables false
set_option linter.unusedSimpArgs false
namespace Go.Sh
theorem lowB_cons (w v : Nat) : lowB (w + 1) v = UInt8.ofNat v :: lowB w (v / 256) := by
  unfold lowB
  rw [List.range_succ_eq_map, List.map_cons, List.map_map]
  simp only [Nat.pow_zero, Nat.div_one, List.cons.injEq, true_and]
  refine List.map_congr_left fun i _ => ?_
  simp only [Function.comp, Nat.pow_succ, Nat.succ_eq_add_one]
  rw [Nat.mul_comm, Nat.div_div_eq_div_mul]
theorem getN_lowB : ∀ (w v : Nat), v < 256 ^ w → getN (lowB w v) = v
  | 0, v, h => by
    have : v = 0 := by simpa using h
    subst this
    rfl
  | w + 1, v, h => by
    rw [lowB_cons, getN, getN_lowB w (v / 256) (by rw [Nat.pow_succ] at h; omega), UInt8.toNat_ofNat']
    omega
theorem lowB_getN : ∀ (L : List UInt8), lowB L.length (getN L) = L
  | [] => rfl
  | b :: r => by
    rw [List.length_cons, lowB_cons, getN]
    have hb := b.toNat_lt
    have h1 : (b.toNat + 256 * getN r) / 256 = getN r := by omega
    have h2 : UInt8.ofNat (b.toNat + 256 * getN r) = b := by
      apply UInt8.toNat_inj.1
      rw [UInt8.toNat_ofNat']
      omega
    rw [h1, h2, lowB_getN r]
/-- Fields laid and told. -/
theorem told_laid : ∀ (fs : List Fld) (r : List UInt8), (∀ f ∈ fs, f.2 < 256 ^ f.1) → toldF (laidF fs ++ r) (fs.map (·.1)) = fs
  | [], r, _ => rfl
  | (w, v) :: fs, r, h => by
    have h1 := h (w, v) (List.mem_cons_self ..)
    have e : laidF ((w, v) :: fs) ++ r = lowB w v ++ (laidF fs ++ r) := by simp [laidF]
    rw [List.map_cons, toldF, e, List.take_left' (lowB_len w v), List.drop_left' (lowB_len w v), getN_lowB w v h1, told_laid fs r fun f hf => h f (List.mem_cons_of_mem _ hf)]
/-- Fields told and laid. -/
theorem laid_told : ∀ (ws : List Nat) (L : List UInt8), ws.sum ≤ L.length → laidF (toldF L ws) = L.take ws.sum
  | [], L, _ => by simp [toldF, laidF]
  | w :: ws, L, h => by
    rw [List.sum_cons] at h
    have e : laidF (toldF L (w :: ws)) = lowB w (getN (L.take w)) ++ laidF (toldF (L.drop w) ws) := by simp [toldF, laidF]
    have hl : (L.take w).length = w := by rw [List.length_take]; omega
    have e2 : lowB w (getN (L.take w)) = L.take w := by
      conv => lhs; rw [← hl]
      rw [hl]
      have := lowB_getN (L.take w)
      rwa [hl] at this
    rw [e, e2, laid_told ws (L.drop w) (by rw [List.length_drop]; omega), List.sum_cons, List.take_add]
theorem offF_lt {i : Nat} (h : i < 10) : offF i ≤ 60 := by
  have : ∀ i, i < 10 → offF i ≤ 60 := by decide
  exact this i h
theorem fldsM_place {L : List UInt8} {t n : Nat} : ∀ {m k a q : Nat} {ats : List Nat}, fldsM L t n m k a = (some q, ats) → q < t + 64 * (k + m)
  | 0, k, a, q, ats, h => by simp [fldsM] at h
  | m + 1, k, a, q, ats, h => by
    simp only [fldsM] at h
    split at h
    · rename_i i hbe
      simp only [Prod.mk.injEq, Option.some.injEq] at h
      have hi : i < 10 := by
        unfold badEnt at hbe
        exact List.mem_range.1 (List.mem_of_find?_eq_some hbe)
      have := offF_lt hi
      omega
    · simp only [Prod.mk.injEq] at h
      have := fldsM_place (m := m) (k := k + 1) (a := nxtA k a (entAt L t k)) (q := q) (ats := (fldsM L t n m (k + 1) (nxtA k a (entAt L t k))).2) (by rw [← h.1])
      omega
theorem padIn_place {L : List UInt8} : ∀ {m e q : Nat}, padIn L m e = some q → q < e + m
  | 0, e, q, h => by simp [padIn] at h
  | m + 1, e, q, h => by
    simp only [padIn] at h
    split at h
    · obtain rfl := Option.some.inj h
      omega
    · have := padIn_place h
      omega
theorem padM_place {L : List UInt8} {t : Nat} {ats : List Nat} (ht : t % 8 = 0) : ∀ {m k q : Nat}, (∀ j b, ats[j]? = some b → 0 < j → b + fv (entAt L t j) 5 ≤ t) → 1 ≤ k → k + m ≤ ats.length → padM L t ats m k = some q → q ≤ t
  | 0, k, q, _, _, _, h => by simp [padM] at h
  | m + 1, k, q, hfit, hk, hl, h => by
    simp only [padM] at h
    obtain ⟨b, hb⟩ : ∃ b, ats[k]? = some b := ⟨_, List.getElem?_eq_getElem (by omega)⟩
    have hf := hfit k b hb (by omega)
    have hg : ats.getD k 0 = b := by rw [List.getD_eq_getElem?_getD, hb]; rfl
    rw [hg] at h
    split at h
    · rename_i q' hp
      obtain rfl := Option.some.inj h
      have := padIn_place hp
      have h2 : r8 (b + fv (entAt L t k) 5) ≤ t := by unfold r8; omega
      have h3 := r8_ge (b + fv (entAt L t k) 5)
      omega
    · exact padM_place ht hfit (by omega) (by omega) h
theorem nmAt_end {p : Nat} {ns : List Nm} {s : Nm} (h : nmAt p 1 ns = some s) : p + s.length + 1 ≤ endAt 1 ns := by
  obtain ⟨i, h1, rfl⟩ := nmAt_some h
  have htk : ns.take (i + 1) = ns.take i ++ [s] := by rw [List.take_add_one, h1]; rfl
  have : endAt 1 (ns.take (i + 1)) ≤ endAt 1 ns := by
    conv => rhs; rw [← List.take_append_drop (i + 1) ns, endAt_app]
    exact Nat.le_trans (Nat.le_add_right _ _) endAt_ge
  rw [htk, endAt_snoc] at this
  exact this
theorem namesM_place {ns : List Nm} {L : List UInt8} {t n : Nat} : ∀ {m k nx : Nat} {sl : List (Nat × Nat)} {out : List Nm}, nx ≤ endAt 1 ns → match namesM ns L t n m k sl nx out with
    | .inl b => b < t + 64 * (k + m)
    | .inr (_, nx') => nx' ≤ endAt 1 ns
  | 0, k, nx, sl, out, h => by simpa [namesM] using h
  | m + 1, k, nx, sl, out, h => by
    cases hs : nmOf ns (fv (entAt L t k) 0) with
    | none =>
      simp only [namesM, hs]
      omega
    | some s =>
      have hpe : fv (entAt L t k) 0 + s.length + 1 ≤ endAt 1 ns := by
        unfold nmOf at hs
        split at hs
        · cases hs
        · exact nmAt_end hs
      by_cases c1 : (seenI sl (fv (entAt L t k) 0) = false ∧ fv (entAt L t k) 0 ≠ nx) ∨ (k + 1 = n ∧ s ≠ ownNm)
      · simp only [namesM, hs, if_pos c1]
        omega
      · by_cases c2 : seenI sl (fv (entAt L t k) 0) = true
        · have := namesM_place (ns := ns) (L := L) (t := t) (n := n) (m := m) (k := k + 1) (sl := sl) (out := out ++ [s]) h
          rw [show k + (m + 1) = k + 1 + m by omega]
          simp only [namesM, hs, if_neg c1, if_pos c2]
          exact this
        · have := namesM_place (ns := ns) (L := L) (t := t) (n := n) (m := m) (k := k + 1) (sl := sl ++ [(fv (entAt L t k) 0, k)]) (out := out ++ [s]) hpe
          rw [show k + (m + 1) = k + 1 + m by omega]
          simp only [namesM, hs, if_neg c1, if_neg c2]
          exact this
/-- F3: where a file is refused, the place is one of its bytes' or its end. -/
theorem readF_place {L : List UInt8} {q : Nat} {e : Int} (h : readF L = .inl (q, e)) : q ≤ L.length := by
  unfold readF at h
  split at h
  · simp only [Sum.inl.injEq, Prod.mk.injEq] at h
    omega
  rename_i h64
  split at h
  · rename_i i hi
    simp only [Sum.inl.injEq, Prod.mk.injEq] at h
    unfold headP at hi
    have := List.mem_range.1 (List.mem_of_find?_eq_some hi)
    omega
  rename_i hP
  obtain ⟨m1, m2, m3, m4, m5, _, _, _, _⟩ := headP_none hP
  generalize hv L 14 = n at m1 m2 m3 h
  generalize tabP L = t at m3 m4 m5 h
  split at h
  · rename_i q' _ hf
    simp only [Sum.inl.injEq, Prod.mk.injEq] at h
    have := fldsM_place hf
    omega
  rename_i ats hf
  obtain ⟨hal, hft⟩ := fldsM_fit m5 hf m4 rfl
  have hfit : ∀ k b, ats[k]? = some b → 0 < k → b + fv (entAt L (t) k) 5 ≤ t := fun k b hb hk => by
    have := (hft k b hb).2.2
    rw [Nat.zero_add] at this
    exact this hk
  split at h
  · rename_i q' hp
    simp only [Sum.inl.injEq, Prod.mk.injEq] at h
    have := padM_place m5 hfit (Nat.le_refl _) (by omega) hp
    omega
  split at h
  · rename_i b hb
    simp only [Sum.inl.injEq, Prod.mk.injEq] at h
    obtain ⟨b0, hb0⟩ : ∃ b0, ats[n - 1]? = some b0 := ⟨_, List.getElem?_eq_getElem (by omega)⟩
    have hg : ats.getD (n - 1) 0 = b0 := by rw [List.getD_eq_getElem?_getD, hb0]; rfl
    have hfx := hfit _ b0 hb0 (by omega)
    obtain ⟨x, hx⟩ : ∃ x, x = fv (entAt L (t) (n - 1)) 5 := ⟨_, rfl⟩
    have hXl : (dataAt L (t) ats (n - 1)).length = x := by
      unfold dataAt
      rw [hg, ← hx, List.length_drop, List.length_take]
      rw [← hx] at hfx
      omega
    unfold namesR at hb
    rw [hg, ← hx] at hb
    rw [← hx] at hfx
    split at hb
    · rename_i q' hr
      have := readB_place hr
      rw [hXl] at this
      simp only [Sum.inl.injEq] at hb
      omega
    · rename_i ns _ hr
      obtain ⟨r1, r2, r3, r4⟩ := readB_some hr
      have hend : endAt 1 ns = x := by rw [← tabB_len, ← r1, hXl]
      have h1e : 1 ≤ endAt 1 ns := Nat.le_trans (Nat.le_add_right 1 _) endAt_ge
      have hnp := namesM_place (ns := ns) (L := L) (t := t) (n := n) (m := n - 1) (k := 1) (nx := 1) (sl := []) (out := []) h1e
      split at hb
      · rename_i b' hM
        rw [hM] at hnp
        simp only at hnp
        simp only [Sum.inl.injEq] at hb
        omega
      · rename_i out nx hM
        rw [hM] at hnp
        simp only at hnp
        split at hb
        · cases hb
        · simp only [Sum.inl.injEq] at hb
          omega
  · cases h
end Go.Sh

/- Files of sections, plain: what is taken is what is written. -/
set_option linter.unusedVariables false
set_option linter.unusedSimpArgs false
namespace Go.Sh
theorem slice_eq {A B : List UInt8} {o w : Nat} (hA : o + w ≤ A.length) (hB : o + w ≤ B.length) (h : ∀ j, o ≤ j → j < o + w → A.getD j 0 = B.getD j 0) : (A.drop o).take w = (B.drop o).take w := by
  refine List.ext_getElem? fun i => ?_
  rw [List.getElem?_take, List.getElem?_take]
  split
  · rename_i hi
    rw [List.getElem?_drop, List.getElem?_drop]
    have := h (o + i) (by omega) (by omega)
    rw [List.getD_eq_getElem?_getD, List.getD_eq_getElem?_getD, List.getElem?_eq_getElem (show o + i < A.length by omega), List.getElem?_eq_getElem (show o + i < B.length by omega)] at this
    rw [List.getElem?_eq_getElem (show o + i < A.length by omega), List.getElem?_eq_getElem (show o + i < B.length by omega)]
    exact congrArg some this
  · rfl
theorem hdT_want : hdT wantB = hdrF 0 2 := by
  unfold hdT
  rw [List.take_of_length_le (by rw [wantB_len]; exact Nat.le_refl _)]
  have := told_laid (hdrF 0 2) [] (by decide)
  rwa [List.append_nil] at this
/-- The header's fields. -/
theorem hdT_eq {L : List UInt8} {t n : Nat} (hL : 64 ≤ L.length) (h : ∀ i, i < 60 → (i < 40 ∨ 48 ≤ i) → L.getD i 0 = wantB.getD i 0) (h8 : hv L 8 = t) (h14 : hv L 14 = n) (h15 : hv L 15 = n - 1) : hdT L = hdrF t n := by
  obtain ⟨B, hB⟩ : ∃ B, B = wantB := ⟨_, rfl⟩
  have hBl : B.length = 64 := by rw [hB]; exact wantB_len
  have hBt : hdT B = hdrF 0 2 := by rw [hB]; exact hdT_want
  rw [← hB] at h
  clear hB
  have hg : ∀ i w o, hdW[i]? = some w → (hdW.take i).sum = o → (o + w ≤ 40 ∨ (48 ≤ o ∧ o + w ≤ 60)) → (hdT L)[i]? = (hdrF 0 2)[i]? := fun i w o hw ho hr => by
    have hsl : ((L.take 64).drop o).take w = ((B.take 64).drop o).take w := by
      refine slice_eq (by rw [List.length_take]; omega) (by rw [List.length_take, hBl]; omega) fun j h1 h2 => ?_
      rw [List.getD_eq_getElem?_getD, List.getD_eq_getElem?_getD, List.getElem?_take, List.getElem?_take, if_pos (by omega), if_pos (by omega), ← List.getD_eq_getElem?_getD, ← List.getD_eq_getElem?_getD]
      exact h j (by omega) (by omega)
    rw [← hBt, hdT_get L i w hw, hdT_get B i w hw, ho, hsl]
  have hsp : ∀ i w x, hdW[i]? = some w → hv L i = x → (hdT L)[i]? = some (w, x) := fun i w x hw hx => by
    have h1 := hdT_get L i w hw
    have h2 : hv L i = getN (((L.take 64).drop (hdW.take i).sum).take w) := by
      unfold hv
      rw [List.getD_eq_getElem?_getD, h1, Option.getD_some]
    rw [h1, ← h2, hx]
  refine List.ext_getElem? fun i => ?_
  rcases Nat.lt_or_ge i 16 with hi | hi
  · have c : i = 0 ∨ i = 1 ∨ i = 2 ∨ i = 3 ∨ i = 4 ∨ i = 5 ∨ i = 6 ∨ i = 7 ∨ i = 8 ∨ i = 9 ∨ i = 10 ∨ i = 11 ∨ i = 12 ∨ i = 13 ∨ i = 14 ∨ i = 15 := by omega
    rcases c with rfl | rfl | rfl | rfl | rfl | rfl | rfl | rfl | rfl | rfl | rfl | rfl | rfl | rfl | rfl | rfl
    · exact hg 0 4 0 rfl rfl (by decide)
    · exact hg 1 4 4 rfl rfl (by decide)
    · exact hg 2 8 8 rfl rfl (by decide)
    · exact hg 3 2 16 rfl rfl (by decide)
    · exact hg 4 2 18 rfl rfl (by decide)
    · exact hg 5 4 20 rfl rfl (by decide)
    · exact hg 6 8 24 rfl rfl (by decide)
    · exact hg 7 8 32 rfl rfl (by decide)
    · exact hsp 8 8 t rfl h8
    · exact hg 9 4 48 rfl rfl (by decide)
    · exact hg 10 2 52 rfl rfl (by decide)
    · exact hg 11 2 54 rfl rfl (by decide)
    · exact hg 12 2 56 rfl rfl (by decide)
    · exact hg 13 2 58 rfl rfl (by decide)
    · exact hsp 14 2 n rfl h14
    · exact hsp 15 2 (n - 1) rfl h15
  · rw [List.getElem?_eq_none (by rw [hdT_len]; exact hi), List.getElem?_eq_none (by exact hi)]
theorem head_bytes_eq {L : List UInt8} {t n : Nat} (hL : 64 ≤ L.length) (h : hdT L = hdrF t n) : L.take 64 = laidF (hdrF t n) := by
  rw [← h]
  have hs : hdW.sum = 64 := rfl
  have := laid_told hdW (L.take 64) (by rw [hs, List.length_take]; omega)
  rw [hs, List.take_take, Nat.min_self] at this
  exact this.symm
/-- The table's bytes. -/
theorem ent_bytes {L : List UInt8} {t k : Nat} (h : t + 64 * k + 64 ≤ L.length) : laidF (entAt L t k) = (L.drop (t + 64 * k)).take 64 := by
  have hs : entW.sum = 64 := rfl
  have e : ((L.take (t + 64 * k + 64)).drop (t + 64 * k)) = (L.drop (t + 64 * k)).take 64 := by rw [List.drop_take]; congr 1; omega
  have := laid_told entW ((L.take (t + 64 * k + 64)).drop (t + 64 * k)) (by rw [hs, List.length_drop, List.length_take]; omega)
  rw [hs] at this
  unfold entAt
  rw [this, e, List.take_take, Nat.min_self]
theorem tab_bytes {L : List UInt8} {t n : Nat} (h : t + 64 * n = L.length) : ∀ k, k ≤ n → (L.drop t).take (64 * k) = ((List.range k).map fun j => laidF (entAt L t j)).flatten
  | 0, _ => by simp
  | k + 1, hk => by
    rw [List.range_succ, List.map_append, List.flatten_append, ← tab_bytes h k (by omega)]
    simp only [List.map_cons, List.map_nil, List.flatten_cons, List.flatten_nil, List.append_nil]
    rw [ent_bytes (by omega), Nat.mul_succ, List.take_add, List.drop_drop]
/-- Where the data stand. -/
theorem fldsM_step {L : List UInt8} {t n : Nat} : ∀ {m k a : Nat} {ats : List Nat}, fldsM L t n m k a = (none, ats) → (0 < m → ats[0]? = some a) ∧ ∀ j b c, ats[j]? = some b → ats[j + 1]? = some c → c = nxtA (k + j) b (entAt L t (k + j))
  | 0, k, a, ats, h => by
    simp only [fldsM, Prod.mk.injEq, true_and] at h
    subst h
    exact ⟨fun h => absurd h (Nat.lt_irrefl 0), fun j b c hb => by simp at hb⟩
  | m + 1, k, a, ats, h => by
    simp only [fldsM] at h
    split at h
    · cases h
    · simp only [Prod.mk.injEq] at h
      obtain ⟨h1, h2⟩ := h
      obtain ⟨q1, q2⟩ := fldsM_step (m := m) (k := k + 1) (a := nxtA k a (entAt L t k)) (ats := (fldsM L t n m (k + 1) (nxtA k a (entAt L t k))).2) (by rw [← h1])
      rw [← h2]
      refine ⟨fun _ => rfl, fun j b c hb hc => ?_⟩
      cases j with
      | zero =>
        obtain rfl : a = b := by simpa using hb
        have hc' : (fldsM L t n m (k + 1) (nxtA k a (entAt L t k))).2[0]? = some c := by simpa using hc
        cases m with
        | zero => simp [fldsM] at hc'
        | succ m =>
          rw [q1 (by omega)] at hc'
          exact (Option.some.inj hc').symm
      | succ j =>
        have := q2 j b c (by simpa using hb) (by simpa using hc)
        rw [show k + (j + 1) = k + 1 + j by omega]
        exact this
end Go.Sh

/- Files of sections, plain: the data and what stands between them. -/
set_option linter.unusedVariables false
set_option linter.unusedSimpArgs false
namespace Go.Sh
theorem padIn_none {L : List UInt8} : ∀ {m e : Nat}, padIn L m e = none → ∀ i, e ≤ i → i < e + m → L.getD i 0 = 0
  | 0, e, _, i, h1, h2 => by omega
  | m + 1, e, h, i, h1, h2 => by
    simp only [padIn] at h
    split at h
    · cases h
    · rename_i hz
      rcases Nat.lt_or_ge e i with hi | hi
      · exact padIn_none h i hi (by omega)
      · obtain rfl : i = e := by omega
        simpa using hz
theorem padM_none {L : List UInt8} {t : Nat} {ats : List Nat} : ∀ {m k : Nat}, padM L t ats m k = none → ∀ j, k ≤ j → j < k + m → padAt L (ats.getD j 0 + fv (entAt L t j) 5) = none
  | 0, k, _, j, h1, h2 => by omega
  | m + 1, k, h, j, h1, h2 => by
    simp only [padM] at h
    split at h
    · cases h
    · rename_i hz
      rcases Nat.lt_or_ge k j with hi | hi
      · exact padM_none h j hi (by omega)
      · obtain rfl : j = k := by omega
        exact hz
theorem pad_sec {L : List UInt8} {a s : Nat} (hb : r8 (a + s) ≤ L.length) (ha : a % 8 = 0) (hp : padAt L (a + s) = none) : (L.drop a).take (r8 s) = ((L.take (a + s)).drop a) ++ List.replicate (r8 s - s) 0 := by
  have hg := r8_ge s
  have hr : r8 (a + s) = a + r8 s := r8_add ha
  rw [show r8 s = s + (r8 s - s) by omega, List.take_add, List.drop_drop]
  congr 1
  · rw [List.drop_take]
    congr 1
    omega
  · rw [show s + (r8 s - s) - s = r8 s - s by omega]
    rw [List.eq_replicate_iff]
    refine ⟨by rw [List.length_take, List.length_drop]; omega, fun b hb' => ?_⟩
    obtain ⟨i, hi⟩ := List.mem_iff_getElem?.1 hb'
    rw [List.getElem?_take] at hi
    split at hi
    · rename_i hlt
      rw [List.getElem?_drop] at hi
      have := padIn_none hp (a + s + i) (by omega) (by rw [hr]; omega)
      rw [List.getD_eq_getElem?_getD, hi] at this
      exact this
    · cases hi
/-- The data of the entries, one behind the other. -/
theorem body_bytes {L : List UInt8} {t n : Nat} {ats : List Nat} {out : List Nm} (hf : fldsM L t n n 0 64 = (none, ats)) (hp : padM L t ats (n - 1) 1 = none) (hn : 2 ≤ n) (ht : t % 8 = 0) (ht64 : 64 ≤ t) (htL : t ≤ L.length) :
    ats.length = n ∧ (∀ k, 1 ≤ k → k < n → ats.getD k 0 = 64 + sumR (secsR L t ats out (k - 1))) ∧ ∀ m, m ≤ n - 1 → 64 + sumR (secsR L t ats out m) ≤ t ∧ bodyB (secsR L t ats out m) = (L.drop 64).take (sumR (secsR L t ats out m)) := by
  obtain ⟨hal, hft⟩ := fldsM_fit ht hf ht64 rfl
  obtain ⟨hs0, hst⟩ := fldsM_step hf
  have h0 := hs0 (by omega)
  have hd : ∀ k, k < n → ats[k]? = some (ats.getD k 0) := fun k hk => by
    rw [List.getD_eq_getElem?_getD, List.getElem?_eq_getElem (by omega)]
    rfl
  have hlen : ∀ k, 1 ≤ k → k < n → (secR L t ats out k).data.length = fv (entAt L t k) 5 ∧ ats.getD k 0 % 8 = 0 ∧ ats.getD k 0 + fv (entAt L t k) 5 ≤ t := fun k hk1 hk => by
    obtain ⟨q1, q2, q3⟩ := hft k _ (hd k hk)
    rw [Nat.zero_add] at q3
    have q4 := q3 (by omega)
    refine ⟨?_, q2, q4⟩
    show (dataAt L t ats k).length = _
    unfold dataAt
    rw [List.length_drop, List.length_take]
    omega
  have hat : ∀ k, 1 ≤ k → k < n → ats.getD k 0 = 64 + sumR (secsR L t ats out (k - 1)) := by
    intro k
    induction k with
    | zero => intro h; omega
    | succ k ih =>
      intro _ hk
      have hs := hst k _ _ (hd k (by omega)) (hd (k + 1) hk)
      rw [Nat.zero_add] at hs
      rcases Nat.eq_zero_or_pos k with rfl | hk0
      · rw [hs]
        have : ats.getD 0 0 = 64 := by rw [List.getD_eq_getElem?_getD, h0]; rfl
        rw [this]
        rfl
      · have ih' := ih hk0 (by omega)
        obtain ⟨l1, l2, l3⟩ := hlen k hk0 (by omega)
        rw [hs, nxtA, if_neg (by omega), r8_add l2]
        have e : sumR (secsR L t ats out (k + 1 - 1)) = sumR (secsR L t ats out (k - 1)) + r8 (fv (entAt L t k) 5) := by
          rw [show k + 1 - 1 = k - 1 + 1 by omega, secsR_succ, sumR_snoc, show k - 1 + 1 = k by omega, l1]
        rw [e]
        omega
  refine ⟨hal, hat, fun m => ?_⟩
  induction m with
  | zero => intro _; exact ⟨by simpa [secsR, sumR] using ht64, by simp [secsR, bodyB, sumR]⟩
  | succ m ih =>
    intro hm
    obtain ⟨i1, i2⟩ := ih (by omega)
    obtain ⟨l1, l2, l3⟩ := hlen (m + 1) (by omega) (by omega)
    have ha := hat (m + 1) (by omega) (by omega)
    rw [Nat.add_sub_cancel] at ha
    have e : sumR (secsR L t ats out (m + 1)) = sumR (secsR L t ats out m) + r8 (fv (entAt L t (m + 1)) 5) := by rw [secsR_succ, sumR_snoc, l1]
    have hle : r8 (ats.getD (m + 1) 0 + fv (entAt L t (m + 1)) 5) ≤ t := by unfold r8; omega
    have hpm := padM_none hp (m + 1) (by omega) (by omega)
    have hps := pad_sec (L := L) (a := ats.getD (m + 1) 0) (s := fv (entAt L t (m + 1)) 5) (by omega) l2 hpm
    rw [r8_add l2] at hle
    refine ⟨by rw [e]; omega, ?_⟩
    rw [secsR_succ, bodyB_snoc, i2, ← secsR_succ, e, List.take_add, List.drop_drop, ← ha, hps, padB, l1]
    rfl
end Go.Sh

/- Files of sections, plain: the names. -/
set_option linter.unusedVariables false
set_option linter.unusedSimpArgs false
namespace Go.Sh
def nmsL (l : List Nm) : List Nm := l.foldl addNm []
theorem nmsL_snoc (l : List Nm) (s : Nm) : nmsL (l ++ [s]) = addNm (nmsL l) s := by simp [nmsL]
theorem nmsOf_L (l : List Sec) : nmsOf l = nmsL (l.map (·.nm)) := by
  unfold nmsOf nmsL
  rw [List.foldl_map]
theorem endAt_take_lt {a : Nat} {ns : List Nm} {i j : Nat} (h : i < j) (hj : j ≤ ns.length) : endAt a (ns.take i) < endAt a (ns.take j) := by
  have e : ns.take j = ns.take i ++ (ns.drop i).take (j - i) := by
    conv => lhs; rw [show j = i + (j - i) by omega, List.take_add]
  rw [e, endAt_app]
  have := endAt_ge (a := endAt a (ns.take i)) (ns := (ns.drop i).take (j - i))
  rw [List.length_take, List.length_drop] at this
  omega
theorem endAt_take_inj {a : Nat} {ns : List Nm} {i j : Nat} (hi : i ≤ ns.length) (hj : j ≤ ns.length) (h : endAt a (ns.take i) = endAt a (ns.take j)) : i = j := by
  rcases Nat.lt_trichotomy i j with h1 | h1 | h1
  · have := endAt_take_lt (a := a) h1 hj
    omega
  · exact h1
  · have := endAt_take_lt (a := a) h1 hi
    omega
theorem namesM_ok {ns : List Nm} {L : List UInt8} {t n : Nat} (hnd : ns.Nodup) : ∀ {m k : Nat} {sl : List (Nat × Nat)} {nx nx' : Nat} {out out' : List Nm}, (∃ r, ns = nmsL out ++ r) → nx = endAt 1 (nmsL out) → (∀ x, seenI sl x = true ↔ x ∈ plcs 1 (nmsL out)) → namesM ns L t n m k sl nx out = .inr (out', nx') →
    ∃ ys, out' = out ++ ys ∧ ys.length = m ∧ (∃ r, ns = nmsL out' ++ r) ∧ nx' = endAt 1 (nmsL out') ∧ ∀ (j : Nat) (s : Nm), ys[j]? = some s → findNm s 1 ns = some (fv (entAt L t (k + j)) 0) ∧ (k + j + 1 = n → s = ownNm)
  | 0, k, sl, nx, nx', out, out', hr, hx, hsn, h => by
    simp only [namesM, Sum.inr.injEq, Prod.mk.injEq] at h
    obtain ⟨rfl, rfl⟩ := h
    exact ⟨[], by simp, rfl, hr, hx, fun j s hj => by simp at hj⟩
  | m + 1, k, sl, nx, nx', out, out', hr, hx, hsn, h => by
    obtain ⟨r, hr⟩ := hr
    cases hs : nmOf ns (fv (entAt L t k) 0) with
    | none =>
      simp only [namesM, hs] at h
      cases h
    | some s =>
      obtain ⟨pl, hpl⟩ : ∃ pl, pl = fv (entAt L t k) 0 := ⟨_, rfl⟩
      rw [← hpl] at hs
      have hna : nmAt pl 1 ns = some s := by
        unfold nmOf at hs
        split at hs
        · cases hs
        · exact hs
      obtain ⟨i, hi, hpi⟩ := nmAt_some hna
      have hil : i < ns.length := (List.getElem?_eq_some_iff.1 hi).1
      have hfd : findNm s 1 ns = some pl := by rw [hpi]; exact findNm_at hnd hi
      have hNl : (nmsL out).length ≤ ns.length := by rw [hr, List.length_append]; omega
      have hNt : ns.take (nmsL out).length = nmsL out := by
        conv => lhs; rw [hr]
        rw [List.take_left' rfl]
      by_cases c1 : (seenI sl pl = false ∧ pl ≠ nx) ∨ (k + 1 = n ∧ s ≠ ownNm)
      · simp only [namesM, ← hpl, hs, if_pos c1] at h
        cases h
      have hown : k + 1 = n → s = ownNm := fun hk => Classical.byContradiction fun e => c1 (.inr ⟨hk, e⟩)
      have fin : ∀ (sl2 : List (Nat × Nat)) (nx2 : Nat), namesM ns L t n m (k + 1) sl2 nx2 (out ++ [s]) = .inr (out', nx') → (∃ r, ns = nmsL (out ++ [s]) ++ r) → nx2 = endAt 1 (nmsL (out ++ [s])) → (∀ x, seenI sl2 x = true ↔ x ∈ plcs 1 (nmsL (out ++ [s]))) →
          ∃ ys, out' = out ++ ys ∧ ys.length = m + 1 ∧ (∃ r, ns = nmsL out' ++ r) ∧ nx' = endAt 1 (nmsL out') ∧ ∀ (j : Nat) (s : Nm), ys[j]? = some s → findNm s 1 ns = some (fv (entAt L t (k + j)) 0) ∧ (k + j + 1 = n → s = ownNm) := fun sl2 nx2 g1 g2 g3 g4 => by
        obtain ⟨ys, q1, q2, q3, q4, q5⟩ := namesM_ok hnd g2 g3 g4 g1
        refine ⟨s :: ys, by rw [q1]; simp, by simp [q2], q3, q4, fun j s' hj => ?_⟩
        cases j with
        | zero =>
          obtain rfl : s = s' := by simpa using hj
          exact ⟨by rw [Nat.add_zero, ← hpl]; exact hfd, hown⟩
        | succ j =>
          have := q5 j s' (by simpa using hj)
          rw [show k + (j + 1) = k + 1 + j by omega]
          exact this
      by_cases c2 : seenI sl pl = true
      · simp only [namesM, ← hpl, hs, if_neg c1, if_pos c2] at h
        obtain ⟨i', s', h1, h2⟩ := plcs_mem.1 ((hsn pl).1 c2)
        have hi'l : i' < (nmsL out).length := (List.getElem?_eq_some_iff.1 h1).1
        have h3 : ns[i']? = some s' := by rw [hr, List.getElem?_append_left hi'l]; exact h1
        have h4 : (nmsL out).take i' = ns.take i' := by rw [← hNt, List.take_take]; congr 1; omega
        rw [h4] at h2
        have h5 : i' = i := endAt_take_inj (by omega) (by omega) (h2.symm.trans hpi)
        subst h5
        have hss : s' = s := by rw [hi] at h3; exact (Option.some.inj h3).symm
        have hmem : s ∈ nmsL out := by rw [← hss]; exact List.mem_of_getElem? h1
        have hsame : nmsL (out ++ [s]) = nmsL out := by rw [nmsL_snoc, addNm, if_pos hmem]
        exact fin sl nx h (by rw [hsame]; exact ⟨r, hr⟩) (by rw [hsame]; exact hx) (by rw [hsame]; exact hsn)
      · simp only [namesM, ← hpl, hs, if_neg c1, if_neg c2] at h
        have hpn : pl = nx := Classical.byContradiction fun e => c1 (.inl ⟨by simpa using c2, e⟩)
        have h5 : i = (nmsL out).length := endAt_take_inj (by omega) hNl (by rw [← hpi, hpn, hx, hNt])
        have hr2 : ∃ r', r = s :: r' := by
          cases r with
          | nil =>
            rw [List.append_nil] at hr
            rw [hr] at hil
            omega
          | cons y r' =>
            rw [hr, List.getElem?_append_right (by omega), h5, Nat.sub_self] at hi
            obtain rfl : y = s := by simpa using hi
            exact ⟨r', rfl⟩
        obtain ⟨r', rfl⟩ := hr2
        have hnm : s ∉ nmsL out := by
          rw [hr] at hnd
          have := (List.nodup_append.1 hnd).2.2
          intro hm
          exact this s hm s (List.mem_cons_self ..) rfl
        have hsame : nmsL (out ++ [s]) = nmsL out ++ [s] := by rw [nmsL_snoc, addNm, if_neg hnm]
        refine fin _ _ h ⟨r', by rw [hsame, hr]; simp⟩ (by rw [hsame, endAt_snoc, ← hx, hpn]) fun x => ?_
        rw [hsame, plcs_app]
        have e1 : seenI (sl ++ [(pl, k)]) x = (seenI sl x || (pl == x)) := by simp [seenI]
        rw [e1, Bool.or_eq_true, List.mem_append, hsn x]
        have e2 : plcs (endAt 1 (nmsL out)) [s] = [endAt 1 (nmsL out)] := rfl
        rw [e2, ← hx, ← hpn]
        rw [beq_iff_eq, List.mem_singleton]
        exact or_congr Iff.rfl ⟨Eq.symm, Eq.symm⟩
end Go.Sh

/- Files of sections, plain: what is taken is what would be written. -/
set_option linter.unusedVariables false
set_option linter.unusedSimpArgs false
namespace Go.Sh
theorem ent_list {F : List Fld} (h : F.map (·.1) = entW) : F = [(4, fv F 0), (4, fv F 1), (8, fv F 2), (8, fv F 3), (8, fv F 4), (8, fv F 5), (4, fv F 6), (4, fv F 7), (8, fv F 8), (8, fv F 9)] := by
  have hl : F.length = 10 := by have := congrArg List.length h; simpa [entW, lastE_len] using this
  match F, hl, h with
  | [⟨a0, b0⟩, ⟨a1, b1⟩, ⟨a2, b2⟩, ⟨a3, b3⟩, ⟨a4, b4⟩, ⟨a5, b5⟩, ⟨a6, b6⟩, ⟨a7, b7⟩, ⟨a8, b8⟩, ⟨a9, b9⟩], _, h =>
    simp only [entW, lastE, entF, List.map_cons, List.map_nil, List.cons.injEq, and_true] at h
    obtain ⟨rfl, rfl, rfl, rfl, rfl, rfl, rfl, rfl, rfl, rfl⟩ := h
    rfl
theorem secsR_len (L : List UInt8) (t : Nat) (ats : List Nat) (out : List Nm) (m : Nat) : (secsR L t ats out m).length = m := by simp [secsR]
theorem secsR_nm {L : List UInt8} {t : Nat} {ats : List Nat} {out : List Nm} : ∀ {m : Nat}, m ≤ out.length → (secsR L t ats out m).map (·.nm) = out.take m
  | 0, _ => by simp [secsR]
  | m + 1, h => by
    rw [secsR_succ, List.map_append, secsR_nm (by omega), List.take_add_one]
    have : out[m]? = some (out.getD m []) := by rw [List.getD_eq_getElem?_getD, List.getElem?_eq_getElem (by omega)]; rfl
    rw [this]
    simp [secR]
theorem readF_parts {L : List UInt8} {ss : List Sec} (h : readF L = .inr ss) : 64 ≤ L.length ∧ headP L = none ∧ ∃ ats out, fldsM L (tabP L) (hv L 14) (hv L 14) 0 64 = (none, ats) ∧ padM L (tabP L) ats (hv L 14 - 1) 1 = none ∧ namesR L (tabP L) (hv L 14) ats = .inr out ∧ ss = secsR L (tabP L) ats out (hv L 14 - 2) := by
  unfold readF at h
  split at h
  · cases h
  rename_i h64
  split at h
  · cases h
  rename_i hP
  split at h
  · cases h
  rename_i ats hf
  split at h
  · cases h
  rename_i hpm
  split at h
  · cases h
  rename_i out hnr
  exact ⟨by omega, hP, ats, out, hf, hpm, hnr, (Sum.inr.inj h).symm⟩
/-- F2: what is taken is the file of what is told. -/
theorem readF_file {L : List UInt8} {ss : List Sec} (h : readF L = .inr ss) : good ss ∧ (∀ x ∈ ss, Sin x) ∧ fileB ss = L := by
  obtain ⟨h64, hP, ats, out, hf, hpm, hnr, hss⟩ := readF_parts h
  obtain ⟨m1, m2, m3, m4, m5, m6, m7, m8, m9⟩ := headP_none hP
  have hhd := hdT_eq h64 m9 m7 rfl m8
  have hhb := head_bytes_eq h64 hhd
  clear h m6 m7 m8 m9 hP hhd
  generalize hv L 14 = n at *
  generalize tabP L = t at *
  obtain ⟨b1, b2, b3⟩ := body_bytes (out := out) hf hpm m1 m5 m4 (by omega)
  obtain ⟨hal, hft⟩ := fldsM_fit m5 hf m4 rfl
  have hbe := fldsM_ok hf
  have hd : ∀ k, k < n → ats[k]? = some (ats.getD k 0) := fun k hk => by
    rw [List.getD_eq_getElem?_getD, List.getElem?_eq_getElem (by omega)]
    rfl
  have hbek : ∀ k, k < n → badEnt t k (ats.getD k 0) (decide (k + 1 = n)) (entAt L t k) = none := fun k hk => by
    have := hbe k _ (hd k hk)
    rwa [Nat.zero_add] at this
  -- the names
  obtain ⟨X, hX⟩ : ∃ X, X = dataAt L t ats (n - 1) := ⟨_, rfl⟩
  unfold namesR at hnr
  rw [← hX] at hnr
  split at hnr
  · cases hnr
  rename_i ns _ hrd
  obtain ⟨r1, r2, r3, r4⟩ := readB_some hrd
  split at hnr
  · cases hnr
  rename_i out' nx hM
  split at hnr
  case isFalse => cases hnr
  rename_i hnx
  obtain rfl := Sum.inr.inj hnr
  obtain ⟨ys, y1, y2, ⟨r, y3⟩, y4, y5⟩ := namesM_ok r3 (sl := []) (nx := 1) (out := []) ⟨ns, rfl⟩ rfl (fun x => by simp [seenI, nmsL, plcs]) hM
  rw [List.nil_append] at y1
  subst y1
  have hXl : X.length = fv (entAt L t (n - 1)) 5 := by
    obtain ⟨q1, q2, q3⟩ := hft (n - 1) _ (hd (n - 1) (by omega))
    rw [Nat.zero_add] at q3
    have := q3 (by omega)
    rw [hX]
    unfold dataAt
    rw [List.length_drop, List.length_take]
    omega
  have hnsE : ns = nmsL out' := by
    have e1 : endAt 1 ns = nx := by rw [hnx, ← hXl, r1, tabB_len]
    rw [y3, endAt_app, ← y4] at e1
    have := endAt_ge (a := nx) (ns := r)
    have hr0 : r = [] := List.eq_nil_of_length_eq_zero (by omega)
    rw [hr0, List.append_nil] at y3
    exact y3
  have hwr : ∀ k i, k < n → i < 10 → badFld t k (ats.getD k 0) (decide (k + 1 = n)) (entAt L t k) i = false := fun k i hk hi => badEnt_none (hbek k hk) hi
  have hw : ∀ k i, k < n → i < 10 → wrongM t k i (fv (entAt L t k) i) (ats.getD k 0) = false := fun k i hk hi => by
    have := hwr k i hk hi
    simp only [badFld, Bool.or_eq_false_iff] at this
    exact this.1.1
  have hz3 : ∀ k, 0 < k → k < n → fv (entAt L t k) 3 = 0 := fun k h0 hk => by
    have := hw k 3 hk (by decide)
    have hk' : ¬ k = 0 := by omega
    simpa [wrongM, hk'] using this
  have hz4 : ∀ k, 0 < k → k < n → fv (entAt L t k) 4 = ats.getD k 0 := fun k h0 hk => by
    have := hw k 4 hk (by decide)
    have hk' : ¬ k = 0 := by omega
    simpa [wrongM, hk'] using this
  have hlast : ∀ i, i < 10 → i ≠ 0 → i ≠ 4 → i ≠ 5 → fv (entAt L t (n - 1)) i = fv lastE i := fun i hi n0 n4 n5 => by
    have := hwr (n - 1) i (by omega) hi
    simp only [badFld, Bool.or_eq_false_iff] at this
    have h2 := this.1.2
    rw [decide_eq_true (show n - 1 + 1 = n by omega), decide_eq_true (show 0 < n - 1 by omega)] at h2
    simpa [n0, n4, n5] using h2
  have hend : r8 (ats.getD (n - 1) 0 + fv (entAt L t (n - 1)) 5) = t := by
    have := hwr (n - 1) 5 (by omega) (by decide)
    simp only [badFld, Bool.or_eq_false_iff] at this
    have h2 := this.2
    rw [decide_eq_true (show n - 1 + 1 = n by omega), decide_eq_true (show 0 < n - 1 by omega)] at h2
    simpa using h2
  have hol : out'.length = n - 1 := y2
  have hown : out'.getD (n - 2) [] = ownNm := by
    obtain ⟨s, hs⟩ : ∃ s, out'[n - 2]? = some s := ⟨_, List.getElem?_eq_getElem (by omega)⟩
    rw [List.getD_eq_getElem?_getD, hs]
    exact (y5 (n - 2) s hs).2 (by omega)
  have hoS : secR L t ats out' (n - 1) = ownS X true := by
    unfold secR
    rw [show n - 1 - 1 = n - 2 by omega, hown, hlast 1 (by decide) (by decide) (by decide) (by decide), hlast 2 (by decide) (by decide) (by decide) (by decide), hlast 6 (by decide) (by decide) (by decide) (by decide), hlast 7 (by decide) (by decide) (by decide) (by decide), hlast 8 (by decide) (by decide) (by decide) (by decide), hlast 9 (by decide) (by decide) (by decide) (by decide), ← hX]
    rfl
  have htab : tabOf ss = ns := by
    have e1 : out' = out'.take (n - 2) ++ [ownNm] := by
      have : out'[n - 2]? = some ownNm := by rw [← hown, List.getD_eq_getElem?_getD, List.getElem?_eq_getElem (by omega)]; rfl
      conv => lhs; rw [← List.take_of_length_le (l := out') (i := n - 2 + 1) (by omega), List.take_add_one, this]
      rfl
    unfold tabOf
    rw [hss, nmsOf_L, secsR_nm (by omega), ← nmsL_snoc, ← e1, hnsE]
  have hall : allOf ss = secsR L t ats out' (n - 1) := by
    unfold allOf
    rw [htab, ← r1, ← hoS, hss]
    conv => rhs; rw [show n - 1 = n - 2 + 1 by omega, secsR_succ]
    rw [show n - 2 + 1 = n - 1 by omega]
  have hofs : sumR (allOf ss) = t - 64 ∧ offs (allOf ss) = t := by
    obtain ⟨q1, q2, q3⟩ := hft (n - 1) _ (hd (n - 1) (by omega))
    have ha := b2 (n - 1) (by omega) (by omega)
    have e : sumR (allOf ss) = sumR (secsR L t ats out' (n - 1 - 1)) + r8 (fv (entAt L t (n - 1)) 5) := by
      rw [hall]
      conv => lhs; rw [show n - 1 = n - 1 - 1 + 1 by omega, secsR_succ, sumR_snoc]
      rw [show n - 1 - 1 + 1 = n - 1 by omega, hoS]
      show _ + r8 X.length = _
      rw [hXl]
    rw [r8_add q2] at hend
    unfold offs
    omega
  have hsl : ss.length = n - 2 := by rw [hss, secsR_len]
  obtain ⟨c1, c2⟩ := b3 (n - 1) (Nat.le_refl _)
  rw [← hall, hofs.1] at c2
  have hpl : ∀ k, 1 ≤ k → k < n → plOf ss (secR L t ats out' k) = fv (entAt L t k) 0 := fun k h1 hk => by
    obtain ⟨s, hs⟩ : ∃ s, out'[k - 1]? = some s := ⟨_, List.getElem?_eq_getElem (by omega)⟩
    have hn : (secR L t ats out' k).nm = s := by
      show out'.getD (k - 1) [] = s
      rw [List.getD_eq_getElem?_getD, hs]
      rfl
    have := (y5 (k - 1) s hs).1
    unfold plOf
    rw [hn, htab, this, show 1 + (k - 1) = k by omega]
    rfl
  have hdl : ∀ k, 1 ≤ k → k < n → (secR L t ats out' k).data.length = fv (entAt L t k) 5 := fun k h1 hk => by
    obtain ⟨q1, q2, q3⟩ := hft k _ (hd k hk)
    rw [Nat.zero_add] at q3
    have := q3 (by omega)
    show (dataAt L t ats k).length = _
    unfold dataAt
    rw [List.length_drop, List.length_take]
    omega
  have hent : ∀ k, 1 ≤ k → k < n → entF (secR L t ats out' k) (plOf ss (secR L t ats out' k)) (64 + sumR (secsR L t ats out' (k - 1))) = entAt L t k := fun k h1 hk => by
    rw [hpl k h1 hk, ← b2 k h1 hk]
    refine Eq.trans ?_ (ent_list (entAt_wid L t k)).symm
    have e5 := hdl k h1 hk
    have e3 := hz3 k h1 hk
    have e4 := hz4 k h1 hk
    unfold entF
    rw [e5, e3, e4]
    simp [secR]
  have hents : ∀ m, m ≤ n - 1 → entB (plOf ss) 64 (secsR L t ats out' m) = ((List.range m).map fun j => laidF (entAt L t (j + 1))).flatten := by
    intro m
    induction m with
    | zero => intro _; rfl
    | succ m ih =>
      intro hm
      have := hent (m + 1) (by omega) (by omega)
      rw [Nat.add_sub_cancel] at this
      rw [secsR_succ, entB_snoc, ih (by omega), this, List.range_succ, List.map_append, List.flatten_append]
      simp
  have hz : laidF (entAt L t 0) = List.replicate 64 0 := by
    have h0 : ∀ i, i < 10 → fv (entAt L t 0) i = 0 := fun i hi => by
      have := hw 0 i (by omega) hi
      simpa [wrongM] using this
    rw [ent_list (entAt_wid L t 0), h0 0 (by decide), h0 1 (by decide), h0 2 (by decide), h0 3 (by decide), h0 4 (by decide), h0 5 (by decide), h0 6 (by decide), h0 7 (by decide), h0 8 (by decide), h0 9 (by decide)]
    rfl
  have htb : List.replicate 64 0 ++ entB (plOf ss) 64 (allOf ss) = L.drop t := by
    have h1 := tab_bytes m3 n (Nat.le_refl _)
    rw [List.take_of_length_le (by rw [List.length_drop]; omega)] at h1
    rw [h1, hall, hents _ (Nat.le_refl _)]
    conv => rhs; rw [show n = n - 1 + 1 by omega, List.range_succ_eq_map]
    rw [List.map_cons, List.flatten_cons, hz, List.map_map]
    rfl
  have hfile : fileB ss = L := by
    unfold fileB
    rw [hofs.2, hsl, show n - 2 + 2 = n by omega, ← hhb, c2, htb]
    rw [show L.drop t = (L.drop 64).drop (t - 64) by rw [List.drop_drop]; congr 1; omega, List.append_assoc, List.take_append_drop, List.take_append_drop]
  have hmem : ∀ x ∈ ss, ∃ k, 1 ≤ k ∧ k < n - 1 ∧ x = secR L t ats out' k := fun x hx => by
    rw [hss] at hx
    simp only [secsR, List.mem_map, List.mem_range] at hx
    obtain ⟨i, h1, rfl⟩ := hx
    exact ⟨i + 1, by omega, by omega, rfl⟩
  refine ⟨⟨by omega, fun x hx => ?_⟩, fun x hx => ?_, hfile⟩
  · obtain ⟨k, k1, k2, rfl⟩ := hmem x hx
    obtain ⟨s, hs⟩ : ∃ s, out'[k - 1]? = some s := ⟨_, List.getElem?_eq_getElem (by omega)⟩
    have hn : (secR L t ats out' k).nm = s := by
      show out'.getD (k - 1) [] = s
      rw [List.getD_eq_getElem?_getD, hs]
      rfl
    obtain ⟨i, hi, _⟩ := findNm_some (y5 (k - 1) s hs).1
    have hok := r2 s (List.mem_of_getElem? hi)
    have f1 := fv_lt (L := L) (t := t) (k := k) (i := 1) (w := 4) rfl
    have f6 := fv_lt (L := L) (t := t) (k := k) (i := 6) (w := 4) rfl
    have f7 := fv_lt (L := L) (t := t) (k := k) (i := 7) (w := 4) rfl
    have g1 : (secR L t ats out' k).ty = (fv (entAt L t k) 1 : Int) := rfl
    have g6 : (secR L t ats out' k).li = (fv (entAt L t k) 6 : Int) := rfl
    have g7 : (secR L t ats out' k).inf = (fv (entAt L t k) 7 : Int) := rfl
    have g2 : (secR L t ats out' k).fl = (fv (entAt L t k) 2 : Int) := rfl
    have g8 : (secR L t ats out' k).al = (fv (entAt L t k) 8 : Int) := rfl
    have g9 : (secR L t ats out' k).es = (fv (entAt L t k) 9 : Int) := rfl
    unfold mayS smallI
    rw [hn, hok, g1, g2, g6, g7, g8, g9]
    simp only [Bool.true_and, Bool.and_eq_true, decide_eq_true_eq]
    omega
  · obtain ⟨k, k1, k2, rfl⟩ := hmem x hx
    have f := fun i hi => fv_fit (hbek k (by omega)) k1 (i := i) hi
    have f2 := f 2 (by simp)
    have f8 := f 8 (by simp)
    have f9 := f 9 (by simp)
    have g2 : (secR L t ats out' k).fl = (fv (entAt L t k) 2 : Int) := rfl
    have g8 : (secR L t ats out' k).al = (fv (entAt L t k) 8 : Int) := rfl
    have g9 : (secR L t ats out' k).es = (fv (entAt L t k) 9 : Int) := rfl
    unfold Sin
    rw [g2, g8, g9]
    omega
end Go.Sh
