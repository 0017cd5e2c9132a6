/- Bytes that are read are the only ones of their symbols; what a byte changed in them comes to. -/
import Derived.Test.YtbjckcenlfgcaaaShLsymtabF
set_option linter.unusedVariables false
set_option linter.unusedSimpArgs false
namespace Go.Sh
theorem leN_div (l : List UInt8) (a : Nat) : ∀ w i, i < w → leN l a w / 2 ^ (8 * i) % 256 = (l.getD (a + i) 0).toNat
  | 0, i, h => by omega
  | w + 1, i, h => by
    have hc := (l.getD (a + w) 0).toNat_lt
    simp only [leN]
    rcases Nat.lt_or_ge i w with hi | hi
    · have ih := leN_div l a w i hi
      have hp : 2 ^ (8 * w) = 2 ^ (8 * i) * (256 * 2 ^ (8 * (w - i - 1))) := by
        rw [show (256 : Nat) = 2 ^ 8 from rfl, ← Nat.pow_add, ← Nat.pow_add]
        congr 1
        omega
      have he : (l.getD (a + w) 0).toNat * 2 ^ (8 * w) = 2 ^ (8 * i) * (256 * ((l.getD (a + w) 0).toNat * 2 ^ (8 * (w - i - 1)))) := by
        rw [hp]
        simp only [Nat.mul_comm, Nat.mul_left_comm, Nat.mul_assoc]
      rw [he, Nat.add_mul_div_left _ _ (Nat.pow_pos (by omega)), Nat.add_mul_mod_self_left, ih]
    · obtain rfl : i = w := by omega
      have hlt := leN_lt l a i
      rw [Nat.add_mul_div_right _ _ (Nat.pow_pos (by omega)), Nat.div_eq_of_lt hlt, Nat.zero_add]
      omega
theorem byteU_leN (l : List UInt8) (a w i : Nat) (h : i < w) : byteU (leN l a w) i = l.getD (a + i) 0 := by
  have h1 := byteU_toNat (leN l a w) i
  have h2 := leN_div l a w i h
  apply UInt8.toNat_inj.1
  have : ((leN l a w : Int) / 2 ^ (8 * i)) % 256 = ((leN l a w / 2 ^ (8 * i) % 256 : Nat) : Int) := by simp
  rw [this, h2] at h1
  omega
theorem leB_leN (l : List UInt8) (a w : Nat) : leB w (leN l a w) = (List.range w).map fun i => l.getD (a + i) 0 := by
  unfold leB
  apply List.map_congr_left
  intro i hi
  exact byteU_leN l a w i (List.mem_range.1 hi)
theorem list_getD (l : List UInt8) : l = (List.range l.length).map fun i => l.getD i 0 := by
  apply List.ext_getElem
  · simp
  · intro i h1 h2
    simp [h1]
theorem range24 (f : Nat → UInt8) : (List.range 24).map f = (List.range 4).map (fun i => f (0 + i)) ++ ((List.range 1).map (fun i => f (4 + i)) ++ ((List.range 1).map (fun i => f (5 + i)) ++ ((List.range 2).map (fun i => f (6 + i)) ++ ((List.range 8).map (fun i => f (8 + i)) ++ (List.range 8).map fun i => f (16 + i))))) := by
  simp [List.range_succ]
theorem wrap_nn {N : Nat} (hN : N < 18446744073709551616) (h0 : 0 ≤ IntKind.wrap .i64 (N : Int)) : IntKind.wrap .i64 (N : Int) = N := by
  rw [IntKind.wrap_i64] at h0 ⊢
  omega
theorem info_parts {s : Srt} {n : Nat} (h : (n : Int) = s.info) : 16 * ((n / 16 : Nat) : Int) + ((n % 16 : Nat) : Int) = s.info ∧ 0 ≤ ((n / 16 : Nat) : Int) ∧ ((n / 16 : Nat) : Int) ≤ 1 ∧ 0 ≤ ((n % 16 : Nat) : Int) ∧ ((n % 16 : Nat) : Int) ≤ 2 := by
  have hinfo : s.info = 2 ∨ s.info = 18 ∨ s.info = 1 ∨ s.info = 16 := by
    cases s with
    | fn g => cases g <;> simp [Srt.info]
    | tab => simp [Srt.info]
    | ext => simp [Srt.info]
  omega
/-- An entry that is right: its symbol may be, and has these bytes. -/
theorem enc_entry {e : List UInt8} (he : e.length = 24) {x : Sym} {s : Srt} {w : Int} (h : entryOf e = (x, some s, w)) (hw : w < 0) : x.sortOk = some s ∧ x.enc s = e := by
  unfold entryOf at h
  split at h
  · simp at h
  · rename_i s' hs
    simp only [Prod.mk.injEq, Option.some.injEq] at h
    obtain ⟨rfl, rfl, hw'⟩ := h
    have hi := sortOf_eq hs
    have c5 : (e.getD 5 0).toNat = 0 := by
      rcases Decidable.em ((e.getD 5 0).toNat ≠ 0) with c | c
      · rw [if_pos c] at hw'; omega
      · omega
    rw [if_neg (by omega)] at hw'
    have c6 : (symAt e).sec = s'.sec := by
      rcases Decidable.em ((symAt e).sec ≠ s'.sec) with c | c
      · rw [if_pos c] at hw'; omega
      · exact Decidable.not_not.1 c
    rw [if_neg (fun h => h c6)] at hw'
    have c8 : s'.value (symAt e).value = true := by
      cases c : s'.value (symAt e).value
      · rw [if_pos c] at hw'; omega
      · rfl
    rw [if_neg (by rw [c8]; simp)] at hw'
    have c16 : s'.size (symAt e).size = true := by
      cases c : s'.size (symAt e).size
      · rw [if_pos c] at hw'; omega
      · rfl
    have n0 : leN e 0 4 < 4294967296 := leN_lt e 0 4
    have n6 : leN e 6 2 < 65536 := leN_lt e 6 2
    have n8 : leN e 8 8 < 18446744073709551616 := leN_lt e 8 8
    have n16 : leN e 16 8 < 18446744073709551616 := leN_lt e 16 8
    have q0 : IntKind.wrap .i64 (leN e 0 4 : Int) = leN e 0 4 := wrap_i64 (by omega) (by omega)
    have q6 : IntKind.wrap .i64 (leN e 6 2 : Int) = leN e 6 2 := wrap_i64 (by omega) (by omega)
    have q8 : IntKind.wrap .i64 (leN e 8 8 : Int) = leN e 8 8 := wrap_nn n8 (Srt.value_nn c8)
    have q16 : IntKind.wrap .i64 (leN e 16 8 : Int) = leN e 16 8 := wrap_nn n16 (Srt.size_nn c16)
    obtain ⟨hb, hbk⟩ := info_parts hi
    have hname : (symAt e).name = leN e 0 4 := q0
    have hsec : (symAt e).sec = leN e 6 2 := q6
    have hval : (symAt e).value = leN e 8 8 := q8
    have hsz : (symAt e).size = leN e 16 8 := q16
    have hbk' : 0 ≤ (symAt e).binding ∧ (symAt e).binding ≤ 1 ∧ 0 ≤ (symAt e).kind ∧ (symAt e).kind ≤ 2 := hbk
    have hb' : 16 * (symAt e).binding + (symAt e).kind = s'.info := hb
    clear q0 q6 q8 q16 hb hbk
    generalize symAt e = y at *
    generalize hN0 : leN e 0 4 = N0 at *
    generalize hN6 : leN e 6 2 = N6 at *
    generalize hN8 : leN e 8 8 = N8 at *
    generalize hN16 : leN e 16 8 = N16 at *
    constructor
    · unfold Sym.sortOk
      rw [if_pos hbk', hb', sortOf_info]
      simp only
      exact if_pos ⟨by omega, by omega, c6, c8, c16⟩
    · have hb4 : byteU s'.info 0 = e.getD 4 0 := by
        apply UInt8.toNat_inj.1
        have h1 := byteU_toNat s'.info 0
        simp only [Nat.mul_zero, Int.pow_zero, Int.ediv_one] at h1
        have := s'.info_le
        omega
      have hb5 : byteU 0 0 = e.getD 5 0 := by
        apply UInt8.toNat_inj.1
        have h1 := byteU_toNat 0 0
        simp only [Nat.mul_zero, Int.pow_zero, Int.ediv_one] at h1
        omega
      have l1 : ∀ x : Int, leB 1 x = [byteU x 0] := fun x => rfl
      unfold Sym.enc
      rw [hname, hsec, hval, hsz, ← hN0, ← hN6, ← hN8, ← hN16, leB_leN, leB_leN, leB_leN, leB_leN, l1, l1, hb4, hb5]
      have := list_getD e
      rw [he, range24] at this
      exact this.symm
theorem rdA_step {o : Ordr} {acc : List Sym} {a : Nat} {l : List UInt8} (h : 24 ≤ l.length) : rdA o acc a l = match entryOf (l.take 24) with
    | (x, none, w) => ([], a + w, 100)
    | (x, some s, w) => if 0 ≤ w then ([], a + w, 100) else if o.ok s x.value = true then rdA (o.step s x.value) (acc ++ [x]) (a + 24) (l.drop 24) else ([], a, 101) := by
  rw [rdA, dif_neg (by rintro rfl; simp at h), dif_neg (by omega)]
  rfl
/-- What goes through: the first entry. -/
theorem rdA_ok {o : Ordr} {acc r : List Sym} {a : Nat} {l : List UInt8} (h : rdA o acc a l = (r, 0, 0)) : (l = [] ∧ r = acc) ∨ (24 ≤ l.length ∧ ∃ x s w, entryOf (l.take 24) = (x, some s, w) ∧ w < 0 ∧ o.ok s x.value = true ∧ rdA (o.step s x.value) (acc ++ [x]) (a + 24) (l.drop 24) = (r, 0, 0)) := by
  by_cases hl : l = []
  · rw [rdA, dif_pos hl] at h
    simp only [Prod.mk.injEq] at h
    exact .inl ⟨hl, h.1.symm⟩
  · by_cases h24 : l.length < 24
    · rw [rdA, dif_neg hl, dif_pos h24] at h
      simp at h
    · right
      have h24 : 24 ≤ l.length := by omega
      refine ⟨h24, ?_⟩
      rw [rdA_step h24] at h
      split at h
      · simp at h
      · rename_i x s w he
        split at h
        · simp at h
        · rename_i hw
          split at h
          · rename_i hok
            exact ⟨x, s, w, he, by omega, hok, h⟩
          · simp at h
theorem rdA_one : ∀ (n : Nat) {o : Ordr} {acc r : List Sym} {a : Nat} {l : List UInt8}, l.length ≤ n → rdA o acc a l = (r, 0, 0) → ∃ ss, r = acc ++ ss ∧ (∃ o' c, wrRun o ss = .ok (o', c)) ∧ encs o ss = l := by
  intro n
  induction n using Nat.strongRecOn with
  | ind n ih =>
    intro o acc r a l hn h
    rcases rdA_ok h with ⟨rfl, rfl⟩ | ⟨h24, x, s, w, he, hw, hok, hr⟩
    · exact ⟨[], by simp, ⟨o, [], rfl⟩, rfl⟩
    · obtain ⟨ss, h1, ⟨o', c, h2⟩, h3⟩ := ih (n - 24) (by omega) (l := l.drop 24) (by simp; omega) hr
      obtain ⟨hs, henc⟩ := enc_entry (e := l.take 24) (by simp; omega) he hw
      refine ⟨x :: ss, by rw [h1]; simp, ⟨o', x.bytes s ++ c, ?_⟩, ?_⟩
      · simp only [wrRun, wr1, hs, hok, if_true, h2]
      · simp only [encs, hs]
        rw [henc, h3, List.take_append_drop]
structure OneOk (b : List UInt8) (ss : List Sym) : Prop where
  wr : ∃ o c, wrRun o0 ss = .ok (o, c)
  file : symFile ss = b
  len : b.length = 24 * ss.length + 24
theorem readOf_ok {b : List UInt8} {ss : List Sym} (h : readOf b = (ss, 0, 0)) : 24 ≤ b.length ∧ b.take 24 = List.replicate 24 0 ∧ rdA o0 [] 24 (b.drop 24) = (ss, 0, 0) := by
  unfold readOf at h
  split at h
  · simp at h
  · rename_i h24
    split at h
    · simp at h
    · rename_i hz
      refine ⟨by omega, ?_, h⟩
      rw [List.findIdx?_eq_none_iff] at hz
      refine List.eq_replicate_iff.2 ⟨by simp; omega, fun x hx => ?_⟩
      have := hz x hx
      simpa using this
theorem read_one {b : List UInt8} {ss : List Sym} (h : readOf b = (ss, 0, 0)) : OneOk b ss := by
  obtain ⟨h24, hz, hr⟩ := readOf_ok h
  obtain ⟨ss', h1, ⟨o, c, h2⟩, h3⟩ := rdA_one _ (Nat.le_refl _) hr
  obtain rfl : ss = ss' := by simpa using h1
  have hf : symFile ss = b := by
    unfold symFile
    rw [h3, ← hz, List.take_append_drop]
  exact ⟨⟨o, c, h2⟩, hf, by rw [← hf, symFile_len h2]⟩
theorem rdA_err : ∀ (n : Nat) {o : Ordr} {acc r : List Sym} {a : Nat} {l : List UInt8} {p k : Int}, l.length ≤ n → rdA o acc a l = (r, p, k) → (k = 0 ∧ p = 0) ∨ (k ≠ 0 ∧ r = []) := by
  intro n
  induction n using Nat.strongRecOn with
  | ind n ih =>
    intro o acc r a l p k hn h
    by_cases hl : l = []
    · rw [rdA, dif_pos hl] at h
      simp only [Prod.mk.injEq] at h
      exact .inl ⟨h.2.2.symm, h.2.1.symm⟩
    · by_cases h24 : l.length < 24
      · rw [rdA, dif_neg hl, dif_pos h24] at h
        simp only [Prod.mk.injEq] at h
        exact .inr ⟨by omega, h.1.symm⟩
      · rw [rdA_step (by omega)] at h
        split at h
        · simp only [Prod.mk.injEq] at h
          exact .inr ⟨by omega, h.1.symm⟩
        · split at h
          · simp only [Prod.mk.injEq] at h
            exact .inr ⟨by omega, h.1.symm⟩
          · split at h
            · exact ih (n - 24) (by omega) (by simp; omega) h
            · simp only [Prod.mk.injEq] at h
              exact .inr ⟨by omega, h.1.symm⟩
theorem read_err {b : List UInt8} {ss : List Sym} {p k : Int} (h : readOf b = (ss, p, k)) : (k = 0 ∧ p = 0) ∨ (k ≠ 0 ∧ ss = []) := by
  unfold readOf at h
  split at h
  · simp only [Prod.mk.injEq] at h
    exact .inr ⟨by omega, h.1.symm⟩
  · split at h
    · simp only [Prod.mk.injEq] at h
      exact .inr ⟨by omega, h.1.symm⟩
    · exact rdA_err _ (Nat.le_refl _) h
/-- Orders that differ at most in how many tables there were, where none may come. -/
structure Sim (o o' : Ordr) : Prop where
  last : o.last = o'.last
  value : o.value = o'.value
  tables : o.tables = o'.tables ∨ ∃ s, o.last = some s ∧ 3 ≤ s.rank
theorem Sim.ok {o o' : Ordr} (h : Sim o o') {s : Srt} {v : Int} (hk : o.ok s v = true) : o'.ok s v = true ∧ Sim (o.step s v) (o'.step s v) := by
  obtain ⟨l, va, t⟩ := o
  obtain ⟨l', va', t'⟩ := o'
  obtain ⟨h1, h2, h3⟩ := h
  simp only at h1 h2 h3
  subst h1
  subst h2
  have hr : ∀ s', l = some s' → s'.rank ≤ s.rank := by
    rintro s' rfl
    simp only [Ordr.ok, Bool.and_eq_true, decide_eq_true_eq] at hk
    exact hk.1
  rcases h3 with rfl | ⟨s', hl, h3⟩
  · exact ⟨hk, rfl, rfl, .inl rfl⟩
  · have hrk := hr s' hl
    have hst : s ≠ .tab := by
      rintro rfl
      have : Srt.rank .tab = 2 := rfl
      omega
    refine ⟨?_, rfl, rfl, .inr ⟨s, rfl, by omega⟩⟩
    unfold Ordr.ok at hk ⊢
    cases s with
    | tab => exact absurd rfl hst
    | fn g => exact hk
    | ext => exact hk
theorem Sim.run : ∀ (n : Nat) {o o' : Ordr} {acc acc' r : List Sym} {a a' : Nat} {l : List UInt8}, l.length ≤ n → Sim o o' → rdA o acc a l = (r, 0, 0) → ∃ r', rdA o' acc' a' l = (r', 0, 0) := by
  intro n
  induction n using Nat.strongRecOn with
  | ind n ih =>
    intro o o' acc acc' r a a' l hn hs h
    rcases rdA_ok h with ⟨rfl, rfl⟩ | ⟨h24, x, s, w, he, hw, hok, hr⟩
    · exact ⟨acc', by rw [rdA, dif_pos rfl]⟩
    · obtain ⟨k1, k2⟩ := hs.ok hok
      obtain ⟨r', hr'⟩ := ih (n - 24) (by omega) (acc' := acc' ++ [x]) (a' := a' + 24) (by simp; omega) k2 hr
      refine ⟨r', ?_⟩
      rw [rdA_step h24, he]
      simp only
      rw [if_neg (by omega), if_pos k1, hr']
theorem Srt.rank3 {s : Srt} (h : 2 ≤ s.rank) (ht : s ≠ .tab) : 3 ≤ s.rank := by
  cases s with
  | fn g => cases g <;> simp [Srt.rank] at h ⊢
  | tab => exact absurd rfl ht
  | ext => simp [Srt.rank]
/-- Two entries that differ, and the same one behind them. -/
theorem sim_two {o : Ordr} {s s' t : Srt} {v v' y : Int} (h1 : (o.step s v).ok t y = true) (h2 : (o.step s' v').ok t y = true) : Sim ((o.step s v).step t y) ((o.step s' v').step t y) := by
  refine ⟨rfl, rfl, ?_⟩
  simp only [Ordr.ok, Ordr.step, Bool.and_eq_true, decide_eq_true_eq] at h1 h2 ⊢
  by_cases ht : t = .tab
  · subst ht
    have e1 : y = 16 * (if s = .tab then o.tables + 1 else o.tables) := of_decide_eq_true h1.2
    have e2 : y = 16 * (if s' = .tab then o.tables + 1 else o.tables) := of_decide_eq_true h2.2
    left
    have e3 : (if s = .tab then o.tables + 1 else o.tables) = (if s' = .tab then o.tables + 1 else o.tables) := by
      clear h1 h2
      generalize (if s = Srt.tab then o.tables + 1 else o.tables) = A at *
      generalize (if s' = Srt.tab then o.tables + 1 else o.tables) = B at *
      omega
    rw [e3]
  · simp only [if_neg ht]
    by_cases hs : s = .tab
    · subst hs
      right
      exact ⟨t, rfl, Srt.rank3 (by have := h1.1; simpa [Srt.rank] using this) ht⟩
    · by_cases hs' : s' = .tab
      · subst hs'
        right
        exact ⟨t, rfl, Srt.rank3 (by have := h2.1; simpa [Srt.rank] using this) ht⟩
      · left
        simp only [if_neg hs, if_neg hs']
theorem rdA_turned : ∀ (n : Nat) {o : Ordr} {acc r acc' : List Sym} {a a' i : Nat} {l : List UInt8} {x : UInt8}, l.length ≤ n → rdA o acc a l = (r, 0, 0) → i < l.length →
    (∃ r', rdA o acc' a' (l.set i x) = (r', 0, 0)) ∨ ∃ (p : Nat) (k : Int), rdA o acc' a' (l.set i x) = ([], ((a' + p : Nat) : Int), k) ∧ k ≠ 0 ∧ (p / 24 = i / 24 ∨ p / 24 = i / 24 + 1) ∧ p ≤ l.length := by
  intro n
  induction n using Nat.strongRecOn with
  | ind n ih =>
    intro o acc r acc' a a' i l x hn h hi
    rcases rdA_ok h with ⟨rfl, rfl⟩ | ⟨h24, y, s, w, he, hw, hok, hr⟩
    · simp at hi
    have hl24 : 24 ≤ (l.set i x).length := by simpa using h24
    rcases Nat.lt_or_ge i 24 with hi24 | hi24
    · have hd : (l.set i x).drop 24 = l.drop 24 := by rw [List.drop_set, if_pos hi24]
      rw [rdA_step hl24, hd]
      have hi0 : i / 24 = 0 := Nat.div_eq_of_lt hi24
      have hle := entryOf_le ((l.set i x).take 24)
      split
      · rename_i y' w' he'
        have hw4 := entryOf_none he'
        subst hw4
        exact .inr ⟨4, 100, by simp, by omega, by omega, by omega⟩
      · rename_i y' s' w' he'
        rw [he'] at hle
        simp only at hle
        split
        · rename_i hw0
          obtain ⟨k, rfl⟩ : ∃ k : Nat, w' = k := ⟨w'.toNat, by omega⟩
          exact .inr ⟨k, 100, by simp, by omega, by omega, by omega⟩
        · rename_i hw0
          split
          · rename_i hok'
            rcases rdA_ok hr with ⟨hnil, _⟩ | ⟨h48, z, t, w2, he2, hw2, hok2, hr2⟩
            · left
              rw [hnil]
              exact ⟨acc' ++ [y'], by rw [rdA, dif_pos rfl]⟩
            · rw [rdA_step h48, he2]
              simp only
              rw [if_neg (by omega)]
              by_cases hok3 : (o.step s' y'.value).ok t z.value = true
              · rw [if_pos hok3]
                left
                exact Sim.run _ (Nat.le_refl _) (sim_two hok2 hok3) hr2
              · rw [if_neg hok3]
                exact .inr ⟨24, 101, by simp, by omega, by omega, by omega⟩
          · exact .inr ⟨0, 101, by simp, by omega, by omega, by omega⟩
    · have ht : (l.set i x).take 24 = l.take 24 := by rw [List.take_set, List.set_eq_of_length_le (by simp; omega)]
      have hd : (l.set i x).drop 24 = (l.drop 24).set (i - 24) x := by rw [List.drop_set, if_neg (by omega)]
      rw [rdA_step hl24, ht, hd, he]
      simp only
      rw [if_neg (by omega), if_pos hok]
      rcases ih (n - 24) (by omega) (acc' := acc' ++ [y]) (a' := a' + 24) (i := i - 24) (x := x) (by simp; omega) hr (by simp; omega) with h | ⟨p, k, h1, h2, h3, h4⟩
      · exact .inl h
      · refine .inr ⟨p + 24, k, ?_, h2, ?_, ?_⟩
        · rw [h1]
          congr 2
          omega
        · omega
        · rw [List.length_drop] at h4
          omega
theorem read_turned {b : List UInt8} {ss : List Sym} (h : readOf b = (ss, 0, 0)) {i : Nat} (hi : i < b.length) {x : UInt8} (hx : b[i]? ≠ some x) :
    (∃ tt, readOf (b.set i x) = (tt, 0, 0) ∧ ss ≠ tt) ∨ ∃ (p : Nat) (k : Int), readOf (b.set i x) = ([], (p : Int), k) ∧ k ≠ 0 ∧ (p / 24 = i / 24 ∨ p / 24 = i / 24 + 1) ∧ p ≤ b.length := by
  have hsame : ∀ tt, readOf (b.set i x) = (tt, 0, 0) → ss ≠ tt := by
    rintro tt ht rfl
    have h1 := (read_one h).file
    have h2 := (read_one ht).file
    rw [h1] at h2
    apply hx
    rw [h2, List.getElem?_set, if_pos rfl, if_pos hi]
  obtain ⟨h24, hz, hr⟩ := readOf_ok h
  have hnl : ¬ (b.set i x).length < 24 := by simp; omega
  rcases Nat.lt_or_ge i 24 with hi24 | hi24
  · right
    have hx0 : x ≠ 0 := by
      rintro rfl
      apply hx
      have : (b.take 24)[i]? = some 0 := by rw [hz, List.getElem?_replicate, if_pos hi24]
      rwa [List.getElem?_take, if_pos hi24] at this
    refine ⟨i, 100, ?_, by omega, .inl rfl, by omega⟩
    unfold readOf
    rw [if_neg hnl, List.take_set, hz]
    have : ((List.replicate 24 (0 : UInt8)).set i x).findIdx? (fun b => decide (b ≠ 0)) = some i := by
      rw [List.findIdx?_eq_some_iff_getElem]
      refine ⟨by simpa using hi24, by simpa using hx0, fun j hj => ?_⟩
      rw [List.getElem_set_ne (by omega), List.getElem_replicate]
      simp
    rw [this]
  · have hres : readOf (b.set i x) = rdA o0 [] 24 ((b.drop 24).set (i - 24) x) := by
      unfold readOf
      rw [if_neg hnl, List.take_set, List.set_eq_of_length_le (by simp; omega), hz]
      have : (List.replicate 24 (0 : UInt8)).findIdx? (fun b => decide (b ≠ 0)) = none := by decide
      rw [this, List.drop_set, if_neg (by omega)]
    rw [hres]
    rcases rdA_turned _ (acc' := []) (a' := 24) (x := x) (Nat.le_refl _) hr (i := i - 24) (by simp; omega) with ⟨tt, ht⟩ | ⟨p, k, h1, h2, h3, h4⟩
    · exact .inl ⟨tt, ht, hsame tt (hres.trans ht)⟩
    · refine .inr ⟨24 + p, k, h1, h2, by omega, ?_⟩
      rw [List.length_drop] at h4
      omega
end Go.Sh
