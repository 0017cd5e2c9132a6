/- Slices of structs, read element by element. -/
import Derived.Test.YtgafhgbnjohbeabDoorSh26
set_option linter.unusedVariables false
set_option linter.unusedSimpArgs false
namespace Go.Sh

/-- A pointer behind which these cells stand. -/
def ElP (p : V) (st : St) (el : List D) : Prop := match p with
  | .ep cs => cs.take el.length = el
  | .ptr id off => ∃ cs, st.row id = some cs ∧ off + el.length ≤ cs.length ∧ (cs.drop off).take el.length = ofDs el
  | _ => False
/-- A slice that reads as these elements. -/
def SlV (sz : Nat) (v : V) (st : St) (els : List (List D)) : Prop := (∀ x ∈ els, x.length = sz) ∧ match v with
  | .d (.sl n _ cs) => n = els.length ∧ cs = els.flatten
  | .rsl s id off n _ => s = sz ∧ n = els.length ∧ ∃ cs, st.row id = some cs ∧ off + n * sz ≤ cs.length ∧ (cs.drop off).take (n * sz) = ofDs els.flatten
  | _ => False
theorem flatten_len {α : Type} {sz : Nat} : ∀ {els : List (List α)}, (∀ x ∈ els, x.length = sz) → els.flatten.length = els.length * sz
  | [], _ => by simp
  | x :: els, h => by
    rw [List.flatten_cons, List.length_append, flatten_len (fun y hy => h y (List.mem_cons_of_mem _ hy)), h x List.mem_cons_self, List.length_cons, Nat.succ_mul]
    omega
theorem flatten_drop {α : Type} {sz : Nat} : ∀ {els : List (List α)}, (∀ x ∈ els, x.length = sz) → ∀ i, els.flatten.drop (i * sz) = (els.drop i).flatten
  | [], _, i => by simp
  | x :: els, h, 0 => by simp
  | x :: els, h, i + 1 => by
    have hx := h x List.mem_cons_self
    rw [List.flatten_cons, Nat.succ_mul, List.drop_succ_cons, ← flatten_drop (fun y hy => h y (List.mem_cons_of_mem _ hy)) i, Nat.add_comm, ← List.drop_drop, List.drop_append, List.drop_eq_nil_of_le (as := x) (by omega)]
    simp [hx]
theorem SlV.len {sz : Nat} {v : V} {st : St} {els : List (List D)} (h : SlV sz v st els) : lenV v = some els.length := by
  obtain ⟨_, h⟩ := h
  split at h
  · simp [lenV, h.1]
  · simp [lenV, h.2.1]
  · exact h.elim
theorem ElP.front {p : V} {st : St} {a b : List D} (h : ElP p st (a ++ b)) : ElP p st a := by
  unfold ElP at h ⊢
  split at h
  · have := congrArg (List.take a.length) h
    simpa [List.take_take, Nat.min_eq_left] using this
  · obtain ⟨cs, h1, h2, h3⟩ := h
    refine ⟨cs, h1, by simp at h2; omega, ?_⟩
    have := congrArg (List.take a.length) h3
    simpa [List.take_take, Nat.min_eq_left, ofDs] using this
  · exact h
theorem ElP.faddr {p : V} {st : St} {a b : List D} {off : Nat} (h : ElP p st (a ++ b)) (hl : a.length = off) : ∃ q, faddrV off p = some q ∧ ElP q st b := by
  subst hl
  unfold ElP at h
  split at h
  · refine ⟨_, rfl, ?_⟩
    simp only [ElP]
    have := congrArg (List.drop a.length) h
    simpa [List.drop_take] using this
  · obtain ⟨cs, h1, h2, h3⟩ := h
    refine ⟨_, rfl, cs, h1, by simp at h2; omega, ?_⟩
    have := congrArg (List.drop a.length) h3
    simpa [List.drop_take, ofDs] using this
  · exact h.elim
theorem ElP.load {p : V} {st : St} {el : List D} {sz : Nat} (h : ElP p st el) (hl : el.length = sz) (hp : 0 < sz) : loadV sz true st p = some (.agg (ofDs el)) := by
  subst hl
  unfold ElP at h
  split at h
  · rename_i cs
    simp only [loadV, mkV]
    have : el.length ≤ cs.length := by
      have := congrArg List.length h
      simp at this
      omega
    rw [if_pos ⟨hp, this⟩, h]
    rfl
  · obtain ⟨cs, h1, h2, h3⟩ := h
    simp only [loadV, h1, h2, if_true, h3, mkV]
  · exact h.elim
theorem ElP.load1 {p : V} {st : St} {d : D} {r : List D} (h : ElP p st (d :: r)) : loadV 1 false st p = some (.d d) := by
  replace h := ElP.front (a := [d]) (b := r) h
  unfold ElP at h
  split at h
  · rename_i cs
    have hl : 1 ≤ cs.length := by
      have := congrArg List.length h
      simp at this
      omega
    simp only [loadV, mkV]
    rw [if_pos ⟨by omega, hl⟩]
    simp only [List.length_singleton] at h
    rw [h]
    rfl
  · obtain ⟨cs, h1, h2, h3⟩ := h
    simp only [List.length_singleton] at h2 h3
    simp [loadV, h1, h2, h3, mkV, ofDs]
  · exact h.elim
theorem SlV.at {sz : Nat} {v : V} {st : St} {els : List (List D)} (h : SlV sz v st els) {i : Nat} {el : List D} (hi : els[i]? = some el) (k : IntKind) : ∃ p, iaddrV sz v (.d (.i k (i : Int))) = some p ∧ ElP p st el := by
  obtain ⟨hs, h⟩ := h
  have hlt : i < els.length := (List.getElem?_eq_some_iff.1 hi).1
  have hel : el.length = sz := hs el (List.mem_of_getElem? hi)
  have hd : els.drop i = el :: els.drop (i + 1) := by
    rw [List.drop_eq_getElem_cons hlt]
    congr 1
    exact (List.getElem?_eq_some_iff.1 hi).2
  have hfd : els.flatten.drop (i * sz) = el ++ (els.drop (i + 1)).flatten := by rw [flatten_drop hs, hd, List.flatten_cons]
  split at h
  · obtain ⟨rfl, rfl⟩ := h
    refine ⟨.ep (els.flatten.drop (i * sz)), by simp [iaddrV, intV]; omega, ?_⟩
    simp only [ElP, hfd]
    simp
  · obtain ⟨rfl, rfl, cs, h1, h2, h3⟩ := h
    rename_i s id off cap
    refine ⟨.ptr id (off + i * s), by simp [iaddrV, intV]; omega, cs, h1, ?_, ?_⟩
    · have : (i + 1) * s ≤ els.length * s := Nat.mul_le_mul_right _ hlt
      rw [Nat.succ_mul] at this
      omega
    · have := congrArg (fun l => (l.drop (i * s)).take el.length) h3
      simp only [List.drop_take, List.drop_drop, ofDs, ← List.map_drop, hfd] at this
      rw [List.take_take, Nat.min_eq_left] at this
      · rw [this]
        simp [ofDs]
      · have : (i + 1) * s ≤ els.length * s := Nat.mul_le_mul_right _ hlt
        rw [Nat.succ_mul] at this
        omega
  · exact h.elim
theorem row_append {st : St} {id : Nat} {cs : List V} (h : st.row id = some cs) (l : List (Option Blk)) : St.row { st with heap := st.heap ++ l } id = some cs := by
  have hlt := St.row_lt h
  unfold St.row at h ⊢
  simp only
  rw [List.getElem?_append_left hlt]
  exact h
/-- A state with more blocks, whatever else. -/
def St.more (st st' : St) : Prop := ∃ l, st'.heap = st.heap ++ l
theorem St.more.refl (st : St) : st.more st := ⟨[], by simp⟩
theorem St.more.trans {a b c : St} (h : a.more b) (k : b.more c) : a.more c := by
  obtain ⟨l, h⟩ := h
  obtain ⟨m, k⟩ := k
  exact ⟨l ++ m, by rw [k, h, List.append_assoc]⟩
theorem St.more.row {st st' : St} (h : st.more st') {id : Nat} {cs : List V} (hr : st.row id = some cs) : st'.row id = some cs := by
  obtain ⟨l, hl⟩ := h
  have := row_append hr l
  unfold St.row at this ⊢
  rw [hl]
  exact this
theorem St.more.push (st : St) (b : Blk) : st.more (st.push b) := ⟨[some b], rfl⟩
theorem ElP.more {p : V} {st st' : St} {el : List D} (hm : st.more st') (h : ElP p st el) : ElP p st' el := by
  unfold ElP at h ⊢
  split at h
  · exact h
  · obtain ⟨cs, h1, h2⟩ := h
    exact ⟨cs, hm.row h1, h2⟩
  · exact h
theorem SlV.more {sz : Nat} {v : V} {st st' : St} {els : List (List D)} (hm : st.more st') (h : SlV sz v st els) : SlV sz v st' els := by
  obtain ⟨hs, h⟩ := h
  refine ⟨hs, ?_⟩
  split at h
  · exact h
  · obtain ⟨h1, h2, cs, h3, h4⟩ := h
    exact ⟨h1, h2, cs, hm.row h3, h4⟩
  · exact h
end Go.Sh
