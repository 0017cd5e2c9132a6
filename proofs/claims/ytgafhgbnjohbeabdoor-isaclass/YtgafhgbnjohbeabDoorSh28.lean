/- Rows of structs that are written. -/
import Derived.Test.YtgafhgbnjohbeabDoorSh27
set_option linter.unusedVariables false
set_option linter.unusedSimpArgs false
namespace Go.Sh
theorem flatten_set {α : Type} {sz : Nat} : ∀ {els : List (List α)} {i : Nat} {el : List α}, (∀ x ∈ els, x.length = sz) → el.length = sz → i < els.length → lay els.flatten (i * sz) el = (els.set i el).flatten
  | [], i, el, _, _, hi => by simp at hi
  | x :: els, 0, el, h, hl, _ => by
    have hx := h x List.mem_cons_self
    simp only [lay, Nat.zero_mul, List.take_zero, List.nil_append, Nat.zero_add, List.flatten_cons, List.set_cons_zero]
    rw [hl, List.drop_append, List.drop_eq_nil_of_le (by omega), hx]
    simp
  | x :: els, i + 1, el, h, hl, hi => by
    have hx := h x List.mem_cons_self
    have ih := flatten_set (els := els) (i := i) (fun y hy => h y (List.mem_cons_of_mem _ hy)) hl (by simpa using hi)
    simp only [lay, List.flatten_cons, List.set_cons_succ] at ih ⊢
    rw [← ih, Nat.succ_mul, List.take_append, List.drop_append, List.take_of_length_le (by omega), List.drop_eq_nil_of_le (as := x) (by omega)]
    simp only [hx, List.nil_append, List.append_assoc]
    rw [show i * sz + sz - sz = i * sz by omega, show i * sz + sz + el.length - sz = i * sz + el.length by omega]
theorem lay_ofDs {a b : List D} {o : Nat} : lay (ofDs a) o (ofDs b) = ofDs (lay a o b) := by
  simp [lay, ofDs]
/-- A block of structs. -/
def Row (sz : Nat) (st : St) (id : Nat) (els : List (List D)) : Prop := (∀ x ∈ els, x.length = sz) ∧ st.row id = some (ofDs els.flatten)
theorem Row.lt {sz : Nat} {st : St} {id : Nat} {els : List (List D)} (h : Row sz st id els) : id < st.heap.length := St.row_lt h.2
theorem ofDs_len {l : List D} : (ofDs l).length = l.length := by simp [ofDs]
theorem Row.slv {sz : Nat} {st : St} {id n cap : Nat} {els : List (List D)} (h : Row sz st id els) (hn : n ≤ els.length) : SlV sz (.rsl sz id 0 n cap) st (els.take n) := by
  refine ⟨fun x hx => h.1 x (List.mem_of_mem_take hx), rfl, by simp; omega, _, h.2, ?_, ?_⟩
  · rw [ofDs_len, flatten_len h.1]
    have := Nat.mul_le_mul_right sz hn
    omega
  · have : els.flatten = (els.take n).flatten ++ (els.drop n).flatten := by rw [← List.flatten_append, List.take_append_drop]
    rw [List.drop_zero, this, ofDs, List.map_append, List.take_left']
    · rfl
    · rw [List.length_map, flatten_len (fun x hx => h.1 x (List.mem_of_mem_take hx)), List.length_take, Nat.min_eq_left hn]
theorem iaddr_rsl {sz id n cap i : Nat} {k : IntKind} (hi : i < n) : iaddrV sz (.rsl sz id 0 n cap) (.d (.i k (i : Int))) = some (.ptr id (i * sz)) := by
  simp [iaddrV, intV, hi]
theorem Row.store {sz : Nat} {st : St} {id i : Nat} {els : List (List D)} (h : Row sz st id els) {el : List D} (hl : el.length = sz) (hi : i < els.length) (hf : st.floor ≤ id) :
    ∃ s, storeV sz st (.ptr id (i * sz)) (.agg (ofDs el)) = some s ∧ Row sz s id (els.set i el) ∧ s = { st with heap := st.heap.set id (some (.row (ofDs (els.set i el).flatten))) } := by
  have hlen : i * sz + sz ≤ els.length * sz := by
    have := Nat.mul_le_mul_right sz (show i + 1 ≤ els.length from hi)
    rwa [Nat.succ_mul] at this
  have hs : storeV sz st (.ptr id (i * sz)) (.agg (ofDs el)) = some { st with heap := st.heap.set id (some (.row (ofDs (els.set i el).flatten))) } := by
    rw [storeV_ptr, h.2]
    simp only [ok1_agg, cs_agg, ofDs_len, hl, flatten_len h.1, hlen, and_self, if_true, lay_ofDs, flatten_set h.1 hl hi, St.setBlk, hf]
  refine ⟨_, hs, ⟨?_, ?_⟩, rfl⟩
  · intro x hx
    rcases List.mem_or_eq_of_mem_set hx with hx | rfl
    · exact h.1 x hx
    · exact hl
  · rw [St.row_set h.lt, if_pos rfl]
theorem SlV.vw {sz : Nat} {v : V} {st : St} {els : List (List D)} (h : SlV sz v st els) : vw sz st v = some (els.length, els.flatten) := by
  obtain ⟨hs, h⟩ := h
  split at h
  · obtain ⟨rfl, rfl⟩ := h
    rfl
  · obtain ⟨rfl, rfl, cs, h1, h2, h3⟩ := h
    simp only [Sh.vw, if_true, cellsAt, h1, h2, h3, toDs_of, Option.map_some]
  · exact h.elim
theorem SlV.vwV {sz : Nat} {v : V} {st : St} {els : List (List D)} (h : SlV sz v st els) : vwV sz st v = some (els.length, ofDs els.flatten) := by
  have hv := h.vw
  obtain ⟨hs, h⟩ := h
  split at h
  · simp only [Sh.vwV, hv, Option.map_some]
  · obtain ⟨rfl, rfl, cs, h1, h2, h3⟩ := h
    simp only [Sh.vwV, if_true, h1, h2, h3]
  · exact h.elim
/-- copy of all of a shorter list. -/
theorem Row.copy {sz : Nat} {st : St} {id cap n : Nat} {els : List (List D)} (h : Row sz st id els) {v : V} {xs : List (List D)} (hv : SlV sz v st xs) (hx : xs.length ≤ n) (hn : n ≤ els.length) (hf : st.floor ≤ id) :
    ∃ s, cpyV sz st (.rsl sz id 0 n cap) v = some (.d (.i .i64 (xs.length : Nat)), s) ∧ Row sz s id (xs ++ els.drop xs.length) ∧ s = { st with heap := st.heap.set id (some (.row (ofDs (xs ++ els.drop xs.length).flatten))) } := by
  have hlen := flatten_len h.1
  have hxl := flatten_len hv.1
  have hmul := Nat.mul_le_mul_right sz hn
  have hmx := Nat.mul_le_mul_right sz hx
  have hmin : min xs.length n = xs.length := Nat.min_eq_left hx
  have hfl : lay els.flatten 0 xs.flatten = (xs ++ els.drop xs.length).flatten := by
    rw [List.flatten_append, ← flatten_drop h.1]
    simp [lay, hxl]
  have hs : cpyV sz st (.rsl sz id 0 n cap) v = some (.d (.i .i64 (xs.length : Nat)), { st with heap := st.heap.set id (some (.row (ofDs (xs ++ els.drop xs.length).flatten))) }) := by
    simp only [cpyV, ne_eq, not_true_eq_false, if_false, h.2, hv.vw, Nat.zero_add, ofDs_len, hlen, hmul, hxl, and_self, if_true, hmin]
    rw [List.take_of_length_le (by omega), lay_ofDs, hfl]
    simp [St.setBlk, hf]
  refine ⟨_, hs, ⟨?_, ?_⟩, rfl⟩
  · intro x hx
    rw [List.mem_append] at hx
    rcases hx with hx | hx
    · exact hv.1 x hx
    · exact h.1 x (List.mem_of_mem_drop hx)
  · rw [St.row_set h.lt, if_pos rfl]
theorem set_push {st : St} {cs cs' : List V} : (⟨(st.push (.row cs)).heap.set st.heap.length (some (.row cs')), (st.push (.row cs)).tips, (st.push (.row cs)).floor, (st.push (.row cs)).tfloor⟩ : St) = st.push (.row cs') := by
  simp [St.push]
theorem Row.push {sz : Nat} (st : St) {els : List (List D)} (h : ∀ x ∈ els, x.length = sz) : Row sz (st.push (.row (ofDs els.flatten))) st.heap.length els := ⟨h, row_push_new rfl⟩
end Go.Sh
