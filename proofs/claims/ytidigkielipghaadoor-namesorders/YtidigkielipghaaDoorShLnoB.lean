/- Objects in another order: the same names. No program in sight. -/
import Derived.Test.YtidigkielipghaaDoorShLnmQ
set_option linter.unusedVariables false
set_option linter.unusedSimpArgs false
set_option linter.unusedSectionVars false
namespace Go.Sh
open Go.RowKit Go.WideElems Go.WideShapes Go.Maps
theorem diffB_iff (l : List TbS) : diffB l = true ↔ ∃ x ∈ l, ∃ y ∈ l, x ≠ y := by
  cases l with
  | nil => simp [diffB]
  | cons t r =>
    unfold diffB
    rw [List.any_eq_true]
    constructor
    · rintro ⟨x, hx, h⟩
      exact ⟨x, hx, t, List.mem_cons_self, by simpa using h⟩
    · rintro ⟨x, hx, y, hy, h⟩
      by_cases hxt : x = t
      · exact ⟨y, hy, by simpa using fun e => h (by rw [hxt, e])⟩
      · exact ⟨x, hx, by simpa using hxt⟩
theorem diffB_perm {l l' : List TbS} (h : l.Perm l') : diffB l = diffB l' := by
  rw [Bool.eq_iff_iff, diffB_iff, diffB_iff]
  constructor
  · rintro ⟨x, hx, y, hy, hn⟩
    exact ⟨x, h.mem_iff.1 hx, y, h.mem_iff.1 hy, hn⟩
  · rintro ⟨x, hx, y, hy, hn⟩
    exact ⟨x, h.mem_iff.2 hx, y, h.mem_iff.2 hy, hn⟩
theorem take1_perm {l l' : List TbS} (h : l.Perm l') (hd : diffB l = false) : l.take 1 = l'.take 1 := by
  cases l with
  | nil => rw [List.nil_perm.1 h]
  | cons a r =>
    cases l' with
    | nil => exact absurd h.length_eq (by simp)
    | cons b r' =>
      have : a = b := by
        by_cases e : a = b
        · exact e
        · exfalso
          have : diffB (a :: r) = true := (diffB_iff _).2 ⟨a, List.mem_cons_self, b, h.mem_iff.2 List.mem_cons_self, e⟩
          rw [hd] at this
          cases this
      simp [this]
section
variable {os os' : List ObS} (h : os.Perm os')
include h
theorem perm_keys (m : Byt8) : m ∈ keysN (gathA os) ↔ m ∈ keysN (gathA os') := by
  rw [gathA_keys, gathA_keys]
  constructor
  · rintro ⟨o, ho, hi⟩
    exact ⟨o, h.mem_iff.1 ho, hi⟩
  · rintro ⟨o, ho, hi⟩
    exact ⟨o, h.mem_iff.2 ho, hi⟩
theorem perm_srt : srtS (keysN (gathA os)) = srtS (keysN (gathA os')) := by
  unfold srtS
  refine mergeSort_of_perm ?_
  exact (List.perm_ext_iff_of_nodup (gathA_nodup os) (gathA_nodup os')).2 (perm_keys h)
theorem perm_fs (n : Byt8) : (fsA n os).length = (fsA n os').length := by
  rw [fsA_len, fsA_len]
  exact (List.Perm.flatMap_right glN h).count_eq n
theorem perm_ts (n : Byt8) : (tsA n os).Perm (tsA n os') := List.Perm.flatMap_right _ h
theorem perm_ex (n : Byt8) : exA n os = exA n os' := by
  unfold exA
  rw [Bool.eq_iff_iff, List.any_eq_true, List.any_eq_true]
  constructor
  · rintro ⟨o, ho, hi⟩
    exact ⟨o, h.mem_iff.1 ho, hi⟩
  · rintro ⟨o, ho, hi⟩
    exact ⟨o, h.mem_iff.2 ho, hi⟩
theorem perm_rule (j : Nat) (n : Byt8) : ruleB j (getN' n (gathA os)) = ruleB j (getN' n (gathA os')) := by
  rw [gathA_get, gathA_get]
  have h1 := perm_fs h n
  have h2 := (perm_ts h n).length_eq
  have h3 := perm_ex h n
  have h4 := diffB_perm (perm_ts h n)
  match j with
  | 0 => simp only [ruleB, twiceB, h1, h2]
  | 1 => simp only [ruleB, undefB, h1, h3]
  | j + 2 => exact h4
theorem perm_first : firstR (srtS (keysN (gathA os))) (gathA os) = firstR (srtS (keysN (gathA os'))) (gathA os') := by
  have : ∀ j, viol (srtS (keysN (gathA os))) (gathA os) j = viol (srtS (keysN (gathA os'))) (gathA os') j := fun j => by
    unfold viol
    rw [perm_srt h]
    congr 1
    funext n
    exact perm_rule h j n
  unfold firstR
  rw [this 0, this 1, this 2]
end
/-- The same function, its object told through the order. -/
def OrdR (q : List Nat) (x y : Bnd) : Prop := x.nm = y.nm ∧ x.fn = y.fn ∧ ∃ k' k : Nat, y.ob = k' ∧ q[k']? = some k ∧ x.ob = k
theorem all2_flat {α : Type} {R : Bnd → Bnd → Prop} {f g : α → List Bnd} : ∀ (S : List α), (∀ n ∈ S, All2 R (f n) (g n)) → All2 R (S.flatMap f) (S.flatMap g)
  | [], _ => .nil
  | n :: S, h => by
    rw [List.flatMap_cons, List.flatMap_cons]
    exact (h n List.mem_cons_self).append (all2_flat S fun m hm => h m (List.mem_cons_of_mem _ hm))
theorem ord_fs {os os' : List ObS} (h : os.Perm os') {q : List Nat} (hq : ∀ (k' : Nat) o, os'[k']? = some o → ∃ k : Nat, q[k']? = some k ∧ os[k]? = some o) {n : Byt8} (ht : twiceB (getN' n (gathA os)) = false) : All2 (OrdR q) (fsA n os) (fsA n os') := by
  have hl := perm_fs h n
  rw [gathA_get] at ht
  unfold twiceB at ht
  simp only [Bool.or_eq_false_iff, decide_eq_false_iff_not] at ht
  have hm : ∀ b' ∈ fsA n os', ∃ k' k j : Nat, b' = ⟨n, k', j⟩ ∧ q[k']? = some k ∧ (⟨n, k, j⟩ : Bnd) ∈ fsA n os := by
    intro b' hb'
    obtain ⟨k', j, o, f, h1, h2, h3, h4, rfl⟩ := mem_fsA.1 hb'
    obtain ⟨k, h5, h6⟩ := hq k' o h1
    exact ⟨k', k, j, rfl, h5, mem_fsA.2 ⟨k, j, o, f, h6, h2, h3, h4, rfl⟩⟩
  cases ha : fsA n os with
  | nil =>
    rw [ha] at hl
    have : fsA n os' = [] := List.length_eq_zero_iff.1 hl.symm
    rw [this]
    exact .nil
  | cons b r =>
    have hr : r = [] := by
      cases r with
      | nil => rfl
      | cons c r => rw [ha] at ht; simp at ht
    subst hr
    cases hb : fsA n os' with
    | nil => rw [ha, hb] at hl; simp at hl
    | cons b' r' =>
      have hr' : r' = [] := by
        cases r' with
        | nil => rfl
        | cons c r => rw [ha, hb] at hl; simp at hl
      subst hr'
      obtain ⟨k', k, j, rfl, h5, h6⟩ := hm b' (by rw [hb]; exact List.mem_cons_self)
      rw [ha, List.mem_singleton] at h6
      subst h6
      exact .cons ⟨rfl, rfl, k', k, rfl, h5, rfl⟩ .nil
theorem flat_congr {α β : Type} {f g : α → List β} : ∀ (S : List α), (∀ n ∈ S, f n = g n) → S.flatMap f = S.flatMap g
  | [], _ => rfl
  | n :: S, h => by rw [List.flatMap_cons, List.flatMap_cons, h n List.mem_cons_self, flat_congr S fun m hm => h m (List.mem_cons_of_mem _ hm)]
/-- Merge of objects in another order. -/
theorem mrg_perm {chk : ObS → Bool} {os os' : List ObS} (h : os.Perm os') {q : List Nat} (hq : ∀ (k' : Nat) o, os'[k']? = some o → ∃ k : Nat, q[k']? = some k ∧ os[k]? = some o) :
    (mrgR chk os).2.2 = (mrgR chk os').2.2 ∧ (mrgR chk os).2.1 = (mrgR chk os').2.1 ∧ All2 (OrdR q) (mrgR chk os).1 (mrgR chk os').1 := by
  have hl := h.length_eq
  have hc : os.all chk = os'.all chk := by
    rw [Bool.eq_iff_iff, List.all_eq_true, List.all_eq_true]
    exact ⟨fun g o ho => g o (h.mem_iff.2 ho), fun g o ho => g o (h.mem_iff.1 ho)⟩
  have hf := perm_first h
  have hs := perm_srt h
  unfold mrgR
  by_cases h64 : 64 < os.length
  · have h64' : 64 < os'.length := by omega
    rw [if_pos h64, if_pos h64']
    exact ⟨rfl, rfl, .nil⟩
  · have h64' : ¬ 64 < os'.length := by omega
    rw [if_neg h64, if_neg h64', hc, ← hf]
    by_cases hca : os'.all chk = true
    · rw [if_pos hca, if_pos hca]
      cases hfr : firstR (srtS (keysN (gathA os))) (gathA os) with
      | some x =>
        obtain ⟨n, c⟩ := x
        exact ⟨rfl, rfl, .nil⟩
      | none =>
        have hr := firstR_none hfr
        refine ⟨rfl, ?_, ?_⟩
        · show List.flatMap _ _ = List.flatMap _ _
          rw [← hs]
          refine flat_congr _ fun n hn => ?_
          have hd := (hr n hn).2.2
          rw [gathA_get] at hd ⊢
          rw [gathA_get]
          exact take1_perm (perm_ts h n) hd
        · show All2 _ (List.flatMap _ _) (List.flatMap _ _)
          rw [← hs]
          refine all2_flat _ fun n hn => ?_
          have := ord_fs h hq (hr n hn).1
          rw [gathA_get, gathA_get]
          exact this
    · rw [if_neg hca, if_neg hca]
      exact ⟨rfl, rfl, .nil⟩
end Go.Sh
