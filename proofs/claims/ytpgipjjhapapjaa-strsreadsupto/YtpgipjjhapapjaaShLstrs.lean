/- String tables as plain lists: names one behind the other, each with a zero behind it. -/
import Derived.Test.YtpgipjjhapapjaaShBe
set_option linter.unusedVariables false
set_option linter.unusedSimpArgs false
namespace Go.Sh
abbrev Nm := List UInt8
def okNm (s : Nm) : Bool := decide (0 < s.length) && decide (s.length ≤ 64) && !s.contains 0
/-- Where names end that stand one behind the other from a on. -/
def endAt (a : Nat) : List Nm → Nat
  | [] => a
  | s :: r => endAt (a + s.length + 1) r
def plcs (a : Nat) : List Nm → List Nat
  | [] => []
  | s :: r => a :: plcs (a + s.length + 1) r
def findNm (s : Nm) (a : Nat) : List Nm → Option Nat
  | [] => none
  | x :: r => if x = s then some a else findNm s (a + x.length + 1) r
def nmAt (p : Nat) (a : Nat) : List Nm → Option Nm
  | [] => none
  | x :: r => if a = p then some x else nmAt p (a + x.length + 1) r
def tabB (ns : List Nm) : List UInt8 := 0 :: (ns.map (· ++ [0])).flatten
theorem endAt_app {a : Nat} : ∀ {ns r : List Nm}, endAt a (ns ++ r) = endAt (endAt a ns) r := by
  intro ns
  induction ns generalizing a with
  | nil => intro r; rfl
  | cons x ns ih => intro r; exact ih
theorem endAt_ge {a : Nat} {ns : List Nm} : a + ns.length ≤ endAt a ns := by
  induction ns generalizing a with
  | nil => exact Nat.le_refl _
  | cons x ns ih =>
    have := ih (a := a + x.length + 1)
    simp only [endAt, List.length_cons]
    omega
theorem endAt_snoc {a : Nat} {ns : List Nm} {s : Nm} : endAt a (ns ++ [s]) = endAt a ns + s.length + 1 := by rw [endAt_app]; rfl
theorem plcs_len {a : Nat} {ns : List Nm} : (plcs a ns).length = ns.length := by
  induction ns generalizing a with
  | nil => rfl
  | cons x ns ih => simp [plcs, ih]
theorem plcs_app {a : Nat} : ∀ {ns r : List Nm}, plcs a (ns ++ r) = plcs a ns ++ plcs (endAt a ns) r := by
  intro ns
  induction ns generalizing a with
  | nil => intro r; rfl
  | cons x ns ih => intro r; simp only [List.cons_append, plcs, endAt, ih]
theorem plcs_get {a : Nat} {ns : List Nm} {i : Nat} {s : Nm} (h : ns[i]? = some s) : (plcs a ns)[i]? = some (endAt a (ns.take i)) := by
  induction ns generalizing a i with
  | nil => simp at h
  | cons x ns ih =>
    cases i with
    | zero => rfl
    | succ i =>
      simp only [List.getElem?_cons_succ] at h
      simp only [plcs, List.getElem?_cons_succ, List.take_succ_cons, endAt]
      exact ih h
theorem findNm_app {s : Nm} {a : Nat} {ns r : List Nm} : findNm s a (ns ++ r) = (findNm s a ns).or (findNm s (endAt a ns) r) := by
  induction ns generalizing a with
  | nil => simp [findNm, endAt]
  | cons x ns ih =>
    simp only [List.cons_append, findNm, endAt]
    split
    · simp
    · exact ih
theorem findNm_none {s : Nm} {a : Nat} {ns : List Nm} : findNm s a ns = none ↔ s ∉ ns := by
  induction ns generalizing a with
  | nil => simp [findNm]
  | cons x ns ih =>
    simp only [findNm, List.mem_cons, not_or]
    split
    · rename_i h
      simp [h]
    · rename_i h
      rw [ih]
      exact ⟨fun hn => ⟨fun e => h e.symm, hn⟩, fun hn => hn.2⟩
theorem findNm_some {s : Nm} {a q : Nat} {ns : List Nm} (h : findNm s a ns = some q) : ∃ i, ns[i]? = some s ∧ q = endAt a (ns.take i) := by
  induction ns generalizing a with
  | nil => simp [findNm] at h
  | cons x ns ih =>
    simp only [findNm] at h
    split at h
    · rename_i hx
      simp only [Option.some.injEq] at h
      exact ⟨0, by simp [hx], by simp [endAt, h]⟩
    · obtain ⟨i, h1, h2⟩ := ih h
      exact ⟨i + 1, by simpa using h1, by simpa [endAt] using h2⟩
theorem findNm_at {s : Nm} {a i : Nat} {ns : List Nm} (hn : ns.Nodup) (h : ns[i]? = some s) : findNm s a ns = some (endAt a (ns.take i)) := by
  induction ns generalizing a i with
  | nil => simp at h
  | cons x ns ih =>
    rw [List.nodup_cons] at hn
    cases i with
    | zero =>
      simp only [List.getElem?_cons_zero, Option.some.injEq] at h
      simp [findNm, h, endAt]
    | succ i =>
      simp only [List.getElem?_cons_succ] at h
      have hne : x ≠ s := fun e => hn.1 (e ▸ List.mem_of_getElem? h)
      simp only [findNm, if_neg hne, List.take_succ_cons, endAt]
      exact ih hn.2 h
theorem nmAt_at {a i : Nat} {ns : List Nm} {s : Nm} (h : ns[i]? = some s) : nmAt (endAt a (ns.take i)) a ns = some s := by
  induction ns generalizing a i with
  | nil => simp at h
  | cons x ns ih =>
    cases i with
    | zero => simpa [nmAt, endAt] using h
    | succ i =>
      simp only [List.getElem?_cons_succ] at h
      simp only [nmAt, List.take_succ_cons, endAt]
      have := endAt_ge (a := a + x.length + 1) (ns := ns.take i)
      rw [if_neg (by omega)]
      exact ih h
theorem nmAt_lt {p a : Nat} {ns : List Nm} (h : p < a) : nmAt p a ns = none := by
  induction ns generalizing a with
  | nil => rfl
  | cons x ns ih =>
    simp only [nmAt]
    rw [if_neg (by omega)]
    exact ih (by omega)
theorem nmAt_some {p a : Nat} {ns : List Nm} {s : Nm} (h : nmAt p a ns = some s) : ∃ i, ns[i]? = some s ∧ p = endAt a (ns.take i) := by
  induction ns generalizing a with
  | nil => simp [nmAt] at h
  | cons x ns ih =>
    simp only [nmAt] at h
    split at h
    · rename_i hx
      simp only [Option.some.injEq] at h
      exact ⟨0, by simp [h], by simp [endAt, hx]⟩
    · obtain ⟨i, h1, h2⟩ := ih h
      exact ⟨i + 1, by simpa using h1, by simpa [endAt] using h2⟩
theorem tabB_len {ns : List Nm} : (tabB ns).length = endAt 1 ns := by
  have : ∀ (ns : List Nm) a, (ns.map (· ++ [(0 : UInt8)])).flatten.length + a = endAt a ns := by
    intro ns
    induction ns with
    | nil => intro a; simp [endAt]
    | cons x ns ih =>
      intro a
      simp only [List.map_cons, List.flatten_cons, List.length_append, List.length_cons, List.length_nil, endAt, ← ih]
      omega
  rw [← this ns 1]
  simp [tabB]
theorem tabB_snoc {ns : List Nm} {s : Nm} : tabB (ns ++ [s]) = tabB ns ++ (s ++ [0]) := by simp [tabB]
/-- What stands from the place of a name on. -/
theorem tabB_drop {ns : List Nm} {i : Nat} (hi : i ≤ ns.length) : (tabB ns).drop (endAt 1 (ns.take i)) = ((ns.drop i).map (· ++ [0])).flatten := by
  have h1 : tabB ns = tabB (ns.take i) ++ ((ns.drop i).map (· ++ [0])).flatten := by
    unfold tabB
    rw [List.cons_append, ← List.flatten_append, ← List.map_append, List.take_append_drop]
  rw [h1, List.drop_left' tabB_len]
/-! ### Reading -/
def toZero (r : List UInt8) : Nm := r.takeWhile (· != 0)
def rdNm : Nat → List Nm → Nat → List UInt8 → Option (List Nm) × Nat
  | 0, ns, _, _ => (some ns, 0)
  | k + 1, ns, a, r => if r = [] then (some ns, 0) else if (toZero r).length = r.length ∨ (toZero r).length = 0 ∨ 64 < (toZero r).length ∨ toZero r ∈ ns then (none, a) else rdNm k (ns ++ [toZero r]) (a + (toZero r).length + 1) (r.drop ((toZero r).length + 1))
def readB : List UInt8 → Option (List Nm) × Nat
  | [] => (none, 0)
  | x :: r => if x = 0 then rdNm r.length [] 1 r else (none, 0)
theorem toZero_len (r : List UInt8) : (toZero r).length ≤ r.length := by
  unfold toZero
  induction r with
  | nil => simp
  | cons x r ih =>
    rw [List.takeWhile_cons]
    split
    · simpa using ih
    · simp
theorem toZero_take (r : List UInt8) : r.take (toZero r).length = toZero r := by
  unfold toZero
  induction r with
  | nil => rfl
  | cons x r ih =>
    rw [List.takeWhile_cons]
    split
    · simpa using ih
    · rfl
theorem toZero_zero {r : List UInt8} (h : (toZero r).length ≠ r.length) : r[(toZero r).length]? = some 0 := by
  unfold toZero at h ⊢
  induction r with
  | nil => simp at h
  | cons x r ih =>
    rw [List.takeWhile_cons] at h ⊢
    split
    · rename_i hx
      rw [if_pos hx] at h
      simp only [List.length_cons, ne_eq, Nat.add_right_cancel_iff] at h
      simpa using ih h
    · rename_i hx
      have : x = 0 := by simpa using hx
      simp [this]
theorem toZero_no (r : List UInt8) : (toZero r).contains 0 = false := by
  unfold toZero
  induction r with
  | nil => rfl
  | cons x r ih =>
    rw [List.takeWhile_cons]
    split
    · rename_i hx
      have : x ≠ 0 := by simpa using hx
      simp only [List.contains_cons, ih, Bool.or_false, beq_eq_false_iff_ne, ne_eq]
      exact fun e => this e.symm
    · rfl
theorem toZero_app {s r : List UInt8} (h : s.contains 0 = false) : toZero (s ++ 0 :: r) = s := by
  unfold toZero
  induction s with
  | nil => rfl
  | cons x s ih =>
    simp only [List.contains_cons, Bool.or_eq_false_iff, beq_eq_false_iff_ne, ne_eq] at h
    have hx : (x != 0) = true := by simpa using fun e => h.1 e.symm
    rw [List.cons_append, List.takeWhile_cons, if_pos hx, ih h.2]
theorem idx_zero (r : List UInt8) : Lib.indexByte r 0 = if (toZero r).length = r.length then -1 else ((toZero r).length : Int) := by
  induction r with
  | nil => rfl
  | cons x r ih =>
    unfold Lib.indexByte
    by_cases hx : x = 0
    · subst hx
      rfl
    · have h1 : (x == 0) = false := by simpa using hx
      have h2 : toZero (x :: r) = x :: toZero r := by
        unfold toZero
        rw [List.takeWhile_cons, if_pos (by simpa using hx)]
      rw [h1, h2, ih]
      simp only [Bool.false_eq_true, if_false, List.length_cons, Nat.add_right_cancel_iff]
      by_cases hl : (toZero r).length = r.length
      · simp [hl]
      · simp only [hl, if_false]
        have : (((toZero r).length : Int) == -1) = false := by
          rw [beq_eq_false_iff_ne]
          omega
        rw [this]
        simp
theorem idx_neg (s : List UInt8) : Lib.indexByte s 0 < 0 ↔ s.contains 0 = false := by
  rw [idx_zero]
  by_cases h : (toZero s).length = s.length
  · simp only [h, if_true]
    have : toZero s = s := by
      have := toZero_take s
      rw [h, List.take_length] at this
      exact this.symm
    have h2 := toZero_no s
    rw [this] at h2
    exact ⟨fun _ => h2, fun _ => by decide⟩
  · simp only [h, if_false]
    have h1 := toZero_zero h
    have h2 := List.mem_of_getElem? h1
    constructor
    · intro h; omega
    · intro h3
      simp only [List.contains_eq_mem, decide_eq_false_iff_not] at h3
      exact absurd h2 h3
/-- Reading what was written. -/
theorem rdNm_tab {ns r : List Nm} {a k : Nat} (hk : ((r.map (· ++ [0])).flatten).length ≤ k) (hr : ∀ s ∈ r, okNm s = true) (hn : (ns ++ r).Nodup) : rdNm k ns a (r.map (· ++ [0])).flatten = (some (ns ++ r), 0) := by
  induction r generalizing ns a k with
  | nil => cases k <;> simp [rdNm]
  | cons s r ih =>
    have hs := hr s List.mem_cons_self
    unfold okNm at hs
    simp only [Bool.and_eq_true, decide_eq_true_eq, Bool.not_eq_true'] at hs
    obtain ⟨⟨h1, h2⟩, h3⟩ := hs
    have he : ((s :: r).map (· ++ [0])).flatten = s ++ 0 :: (r.map (· ++ [0])).flatten := by simp
    rw [he] at hk ⊢
    simp only [List.length_append, List.length_cons] at hk
    cases k with
    | zero => omega
    | succ k =>
      have hz := toZero_app (r := (r.map (· ++ [0])).flatten) h3
      have hns : s ∉ ns := by
        rw [List.nodup_append] at hn
        exact fun h => hn.2.2 s h s List.mem_cons_self rfl
      unfold rdNm
      rw [hz, if_neg (by simp), if_neg (by
        rintro (h | h | h | h)
        · simp only [List.length_append, List.length_cons] at h; omega
        · omega
        · omega
        · exact hns h)]
      have hd : (s ++ 0 :: (r.map (· ++ [0])).flatten).drop (s.length + 1) = (r.map (· ++ [0])).flatten := by
        rw [← List.drop_drop, List.drop_left' rfl]
        rfl
      rw [hd, ih (ns := ns ++ [s]) (by omega) (fun x hx => hr x (List.mem_cons_of_mem _ hx)) (by simpa using hn)]
      simp
theorem readB_tab {ns : List Nm} (hr : ∀ s ∈ ns, okNm s = true) (hn : ns.Nodup) : readB (tabB ns) = (some ns, 0) := by
  unfold readB tabB
  simp only [if_true]
  have := rdNm_tab (ns := []) (a := 1) (Nat.le_refl _) hr (by simpa using hn)
  simpa using this
/-- What is read is the only names of the bytes. -/
theorem rdNm_some {ns ns' : List Nm} {a k q : Nat} {r : List UInt8} (hk : r.length ≤ k) (h : rdNm k ns a r = (some ns', q)) (hr : ∀ s ∈ ns, okNm s = true) (hn : ns.Nodup) :
    ∃ l, ns' = ns ++ l ∧ r = (l.map (· ++ [0])).flatten ∧ (∀ s ∈ ns', okNm s = true) ∧ ns'.Nodup ∧ q = 0 := by
  induction k generalizing ns a r with
  | zero =>
    have : r = [] := List.eq_nil_of_length_eq_zero (by omega)
    subst this
    simp only [rdNm, Prod.mk.injEq, Option.some.injEq] at h
    obtain ⟨rfl, rfl⟩ := h
    exact ⟨[], by simp, rfl, hr, hn, rfl⟩
  | succ k ih =>
    unfold rdNm at h
    split at h
    · rename_i he
      subst he
      simp only [Prod.mk.injEq, Option.some.injEq] at h
      obtain ⟨rfl, rfl⟩ := h
      exact ⟨[], by simp, rfl, hr, hn, rfl⟩
    · split at h
      · simp at h
      · rename_i h0 hc
        simp only [not_or] at hc
        obtain ⟨c1, c2, c3, c4⟩ := hc
        have hok : okNm (toZero r) = true := by
          unfold okNm
          rw [toZero_no]
          simp
          omega
        have hrl := toZero_len r
        obtain ⟨l, q1, q2, q3, q4, q5⟩ := ih (ns := ns ++ [toZero r]) (by rw [List.length_drop]; omega) h (fun s hs => by
          rcases List.mem_append.1 hs with hs | hs
          · exact hr s hs
          · simp only [List.mem_singleton] at hs
            rw [hs]; exact hok) (by
          rw [List.nodup_append]
          refine ⟨hn, by simp, fun x hx y hy e => ?_⟩
          simp only [List.mem_singleton] at hy
          exact c4 (by rw [← hy, ← e]; exact hx))
        refine ⟨toZero r :: l, by simp [q1], ?_, q3, q4, q5⟩
        have hz := toZero_zero c1
        have hlt : (toZero r).length < r.length := (List.getElem?_eq_some_iff.1 hz).1
        have hsplit : r = toZero r ++ 0 :: r.drop ((toZero r).length + 1) := by
          have h1 := (List.take_append_drop (toZero r).length r).symm
          rw [toZero_take, List.drop_eq_getElem_cons hlt] at h1
          rw [(List.getElem?_eq_some_iff.1 hz).2] at h1
          exact h1
        rw [List.map_cons, List.flatten_cons, ← q2]
        simpa using hsplit
theorem readB_some {b : List UInt8} {ns : List Nm} {q : Nat} (h : readB b = (some ns, q)) : b = tabB ns ∧ (∀ s ∈ ns, okNm s = true) ∧ ns.Nodup ∧ q = 0 := by
  unfold readB at h
  split at h
  · simp at h
  · rename_i x r
    split at h
    · rename_i hx
      obtain ⟨l, q1, q2, q3, q4, q5⟩ := rdNm_some (Nat.le_refl _) h (fun s hs => (List.not_mem_nil hs).elim) List.nodup_nil
      rw [List.nil_append] at q1
      subst q1 hx
      exact ⟨by rw [q2]; rfl, q3, q4, q5⟩
    · simp at h
end Go.Sh
