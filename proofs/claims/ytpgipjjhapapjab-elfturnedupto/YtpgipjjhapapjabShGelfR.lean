/- Arguments that are lists of sections. -/
import Derived.Test.YtpgipjjhapapjabShGelf
import Derived.Test.YtpgipjjhapapjabShLelf6
import Derived.Test.YtpgipjjhapapjabShUelf
set_option linter.unusedVariables false
namespace Go.Proofs.Ytpgipjjhapapjab.elf
open Go.Sh
theorem hB : Sub byt9Fns pr := by
  intro x hx
  simp only [byt9Fns, List.mem_cons, List.not_mem_nil, or_false] at hx
  rcases hx with rfl | rfl | rfl <;> rfl
def secTy : Ty := .agg [.str, .int .i64, .int .i64, .int .i64, .int .i64, .int .i64, .int .i64, .sl 1 (.int .u8)]
theorem sec_of {el : List D} (h : Has secTy el) : ∃ x : Sec, el = x.cells ∧ Sin x := by
  simp only [secTy, Has, Hass] at h
  obtain ⟨_, _, rfl, ⟨a, rfl, a1⟩, _, _, rfl, ⟨b, rfl, b1, b2⟩, _, _, rfl, ⟨c, rfl, c1, c2⟩, _, _, rfl, ⟨d, rfl, d1, d2⟩, _, _, rfl, ⟨e, rfl, e1, e2⟩, _, _, rfl, ⟨f, rfl, f1, f2⟩, _, _, rfl, ⟨g, rfl, g1, g2⟩, _, _, rfl, ⟨els, nz, rfl, h1, h2, h3⟩, rfl⟩ := h
  obtain ⟨l, rfl⟩ := bytes_of (fun x hx => by simpa only [Has] using h3 x hx)
  refine ⟨⟨a, b, c, d, e, f, g, l, nz⟩, ?_, ?_⟩
  · simp [Sec.cells, byC_flat]
  · have m : IntKind.max .i64 = 9223372036854775807 := rfl
    rw [m] at c2 f2 g2
    exact ⟨by show c < _; omega, by show f < _; omega, by show g < _; omega⟩
theorem secs_of : ∀ {els : List (List D)}, (∀ x ∈ els, Has secTy x) → ∃ ss : List Sec, els = ss.map Sec.cells ∧ ∀ x ∈ ss, Sin x
  | [], _ => ⟨[], rfl, fun _ h => by cases h⟩
  | x :: els, h => by
    obtain ⟨y, rfl, hy⟩ := sec_of (h x List.mem_cons_self)
    obtain ⟨is, rfl, his⟩ := secs_of fun z hz => h z (List.mem_cons_of_mem _ hz)
    refine ⟨y :: is, rfl, ?_⟩
    intro z hz
    cases hz with
    | head => exact hy
    | tail _ hz => exact his z hz
theorem bulk_app (a b : List D) : bulkL (a ++ b) = bulkL a + bulkL b := by
  induction a with
  | nil => simp [bulkL]
  | cons d r ih => simp only [List.cons_append, bulkL, ih]; omega
theorem bulk_secs (ss : List Sec) : ss.length + (ss.map fun s => s.data.length).sum ≤ bulkL (ss.map Sec.cells).flatten := by
  induction ss with
  | nil => simp [bulkL]
  | cons s r ih =>
    have h := len_bulk (byteCells s.data)
    have hl : (byteCells s.data).length = s.data.length := by simp [byteCells]
    rw [show ((s :: r).map Sec.cells).flatten = s.cells ++ (r.map Sec.cells).flatten by rw [List.map_cons, List.flatten_cons], bulk_app]
    simp only [Sec.cells, bulkL, bulkD, List.length_cons, List.map_cons, List.sum_cons] at ih ⊢
    omega
theorem sumR_le (ss : List Sec) : sumR ss ≤ 8 * ss.length + (ss.map fun s => s.data.length).sum := by
  induction ss with
  | nil => simp [sumR]
  | cons s r ih =>
    have : r8 s.data.length ≤ s.data.length + 8 := by unfold r8; omega
    simp only [sumR, List.map_cons, List.sum_cons, List.length_cons] at ih ⊢
    omega
theorem data_le {ss : List Sec} {x : Sec} (h : x ∈ ss) : x.data.length ≤ (ss.map fun s => s.data.length).sum := by
  induction ss with
  | nil => cases h
  | cons s r ih =>
    simp only [List.map_cons, List.sum_cons]
    cases h with
    | head => omega
    | tail _ h => have := ih h; omega
/-- Sections among small arguments are small. -/
theorem secs_small {n : Nat} {nz : Bool} {ss : List Sec} {r : List D} (h : bulkL (.sl n nz (ss.map Sec.cells).flatten :: r) ≤ 1048576) : ss.length ≤ 1048576 ∧ sumR ss ≤ 16777216 ∧ ∀ x ∈ ss, x.data.length ≤ 140737488355328 := by
  simp only [bulkL, bulkD] at h
  have h1 := bulk_secs ss
  have h2 := sumR_le ss
  refine ⟨by omega, by omega, fun x hx => ?_⟩
  have := data_le hx
  omega
end Go.Proofs.Ytpgipjjhapapjab.elf
