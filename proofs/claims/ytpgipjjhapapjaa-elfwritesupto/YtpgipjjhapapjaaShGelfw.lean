/- The seat's functions are those that ElfWrites reaches; lists of sections as arguments. -/
import Derived.Test.YtpgipjjhapapjaaShLewM
import Derived.Test.YtpgipjjhapapjaaShTelfw
import Derived.Test.YtpgipjjhapapjaaShBe
set_option linter.unusedVariables false
namespace Go.Proofs.Ytpgipjjhapapjaa.elfw
open Go.Sh
theorem hp : Sub elfFns pr := by
  intro x hx
  simp only [elfFns, List.mem_cons, List.not_mem_nil, or_false] at hx
  rcases hx with rfl | rfl | rfl | rfl | rfl | rfl | rfl | rfl | rfl | rfl | rfl | rfl | rfl | rfl | rfl | rfl | rfl | rfl | rfl <;> rfl
theorem hs : Sub strsFns pr := by
  intro x hx
  simp only [strsFns, List.mem_cons, List.not_mem_nil, or_false] at hx
  rcases hx with rfl | rfl | rfl | rfl | rfl | rfl | rfl | rfl | rfl | rfl | rfl | rfl | rfl <;> rfl
theorem hr : Sub ref9bFns pr := by
  intro x hx
  simp only [ref9bFns, List.mem_cons, List.not_mem_nil, or_false] at hx
  rcases hx with rfl | rfl | rfl <;> rfl
theorem hAw : Sub aw9Fns pr := by
  intro x hx
  simp only [aw9Fns, List.mem_cons, List.not_mem_nil, or_false] at hx
  rcases hx with rfl | rfl <;> rfl
theorem hrw : Sub rwFns pr := by
  intro x hx
  simp only [rwFns, List.mem_cons, List.not_mem_nil, or_false] at hx
  rcases hx with rfl | rfl | rfl | rfl | rfl | rfl | rfl | rfl | rfl <;> rfl
theorem h8 : Sub nm8Fns pr := by
  intro x hx
  simp only [nm8Fns, List.mem_cons, List.not_mem_nil, or_false] at hx
  rcases hx with rfl <;> rfl
theorem hRk : Sub rkFns pr := by
  intro x hx
  simp only [rkFns, List.mem_cons, List.not_mem_nil, or_false] at hx
  rcases hx with rfl | rfl | rfl <;> rfl
theorem hd : Sub lendFns pr := by
  intro x hx
  simp only [lendFns, List.mem_cons, List.not_mem_nil, or_false] at hx
  rcases hx with rfl | rfl | rfl <;> rfl
theorem hb : Sub bookFns pr := by
  intro x hx
  simp only [bookFns, List.mem_cons, List.not_mem_nil, or_false] at hx
  rcases hx with rfl | rfl | rfl | rfl | rfl | rfl | rfl | rfl | rfl <;> rfl
theorem he : Sub ewFns pr := by
  intro x hx
  simp only [ewFns, List.mem_cons, List.not_mem_nil, or_false] at hx
  rcases hx with rfl | rfl | rfl <;> rfl
theorem hq : SubP strsPrims pr := by
  intro x hx
  simp only [strsPrims, List.mem_cons, List.not_mem_nil, or_false] at hx
  rcases hx with rfl | rfl | rfl <;> exact ⟨rfl, rfl⟩
theorem rd1 : runV pr 500 178 [.sl 3 true [.i .u8 1, .i .u8 2, .i .u8 3]] (.tup [.d (.sl 0 false []), .d (.i .i64 3), .d (.i .i64 90)]) = true := by kernel_rfl
theorem rd2 : runV pr 500 178 [.sl (fileB [sec0]).length true (byteCells (fileB [sec0]))] (.tup [secV [sec0] true, .d (.i .i64 0), .d (.i .i64 0)]) = true := by kernel_rfl
theorem hA : AwkE pr := ⟨den_of_runV rd1, den_of_runV rd2⟩
def secTy : Ty := .agg [.str, .int .i64, .int .i64, .int .i64, .int .i64, .int .i64, .int .i64, .sl 1 (.int .u8)]
theorem sec_of {el : List D} (h : Has secTy el) : ∃ x : Sec, el = x.cells ∧ Sin x ∧ x.nm.length ≤ 140737488351232 := by
  simp only [secTy, Has, Hass] at h
  obtain ⟨_, _, rfl, ⟨a, rfl, a1⟩, _, _, rfl, ⟨b, rfl, b1, b2⟩, _, _, rfl, ⟨c, rfl, c1, c2⟩, _, _, rfl, ⟨d, rfl, d1, d2⟩, _, _, rfl, ⟨e, rfl, e1, e2⟩, _, _, rfl, ⟨f, rfl, f1, f2⟩, _, _, rfl, ⟨g, rfl, g1, g2⟩, _, _, rfl, ⟨els, nz, rfl, h1, h2, h3⟩, rfl⟩ := h
  obtain ⟨l, rfl⟩ := bytes_of (fun x hx => by simpa only [Has] using h3 x hx)
  refine ⟨⟨a, b, c, d, e, f, g, l, nz⟩, ?_, ?_, a1⟩
  · simp [Sec.cells, byC_flat]
  · have m : IntKind.max .i64 = 9223372036854775807 := rfl
    rw [m] at c2 f2 g2
    exact ⟨by show c < _; omega, by show f < _; omega, by show g < _; omega⟩
theorem secs_of : ∀ {els : List (List D)}, (∀ x ∈ els, Has secTy x) → ∃ ss : List Sec, els = ss.map Sec.cells ∧ ∀ x ∈ ss, Sin x ∧ x.nm.length ≤ 140737488351232
  | [], _ => ⟨[], rfl, fun _ h => by cases h⟩
  | x :: els, h => by
    obtain ⟨y, rfl, hy⟩ := sec_of (h x List.mem_cons_self)
    obtain ⟨is, rfl, his⟩ := secs_of fun z hz => h z (List.mem_cons_of_mem _ hz)
    refine ⟨y :: is, rfl, ?_⟩
    intro z hz
    cases hz with
    | head => exact hy
    | tail _ hz => exact his z hz
def lsD (x : Bool × List Sec) : List D := [D.sl x.2.length x.1 (x.2.map Sec.cells).flatten]
theorem lists_of : ∀ {els : List (List D)}, (∀ x ∈ els, Has (.sl 88 secTy) x) → ∃ ls : List (Bool × List Sec), els = ls.map lsD ∧ ∀ x ∈ ls, ∀ y ∈ x.2, Sin y ∧ y.nm.length ≤ 140737488351232
  | [], _ => ⟨[], rfl, fun _ h => by cases h⟩
  | x :: els, h => by
    have h1 := h x List.mem_cons_self
    simp only [Has] at h1
    obtain ⟨e, nz, rfl, _, _, hel⟩ := h1
    obtain ⟨ss, rfl, hss⟩ := secs_of hel
    obtain ⟨is, rfl, his⟩ := lists_of fun z hz => h z (List.mem_cons_of_mem _ hz)
    refine ⟨(nz, ss) :: is, by simp [lsD], ?_⟩
    intro z hz
    cases hz with
    | head => exact hss
    | tail _ hz => exact his z hz
theorem bulk_app (a b : List D) : bulkL (a ++ b) = bulkL a + bulkL b := by
  induction a with
  | nil => simp [bulkL]
  | cons d r ih => simp only [List.cons_append, bulkL, ih]; omega
theorem bulk_secs (ss : List Sec) : ss.length + (ss.map fun s => s.data.length).sum ≤ bulkL (ss.map Sec.cells).flatten := by
  induction ss with
  | nil => simp [bulkL]
  | cons s r ih =>
    have h := len_bulk (byteCells s.data)
    have hl : (byteCells s.data).length = s.data.length := by simp [byteCells]
    rw [show ((s :: r).map Sec.cells).flatten = s.cells ++ (r.map Sec.cells).flatten by rw [List.map_cons, List.flatten_cons], bulk_app]
    simp only [Sec.cells, bulkL, bulkD, List.length_cons, List.map_cons, List.sum_cons] at ih ⊢
    omega
theorem sumR_le (ss : List Sec) : sumR ss ≤ 8 * ss.length + (ss.map fun s => s.data.length).sum := by
  induction ss with
  | nil => simp [sumR]
  | cons s r ih =>
    have : r8 s.data.length ≤ s.data.length + 8 := by unfold r8; omega
    simp only [sumR, List.map_cons, List.sum_cons, List.length_cons] at ih ⊢
    omega
theorem data_le {ss : List Sec} {x : Sec} (h : x ∈ ss) : x.data.length ≤ (ss.map fun s => s.data.length).sum := by
  induction ss with
  | nil => cases h
  | cons s r ih =>
    simp only [List.map_cons, List.sum_cons]
    cases h with
    | head => omega
    | tail _ h => have := ih h; omega
/-- Sections among small arguments are small. -/
theorem secs_small {n : Nat} {nz : Bool} {ss : List Sec} {r : List D} (h : bulkL (.sl n nz (ss.map Sec.cells).flatten :: r) ≤ 1048576) : ss.length ≤ 1048576 ∧ sumR ss ≤ 16777216 ∧ ∀ x ∈ ss, x.data.length ≤ 140737488355328 := by
  simp only [bulkL, bulkD] at h
  have h1 := bulk_secs ss
  have h2 := sumR_le ss
  refine ⟨by omega, by omega, fun x hx => ?_⟩
  have := data_le hx
  omega
theorem bulk_in {ls : List (Bool × List Sec)} {x : Bool × List Sec} (hx : x ∈ ls) : bulkL (lsD x) ≤ bulkL (ls.map lsD).flatten := by
  induction ls with
  | nil => cases hx
  | cons y r ih =>
    rw [List.map_cons, List.flatten_cons, bulk_app]
    cases hx with
    | head => omega
    | tail _ h => have := ih h; omega
theorem lists_small {n : Nat} {nz : Bool} {ls : List (Bool × List Sec)} (hs : ∀ x ∈ ls, ∀ y ∈ x.2, Sin y ∧ y.nm.length ≤ 140737488351232) (h : bulkL [.sl n nz (ls.map lsD).flatten] ≤ 1048576) : ls.length ≤ 1048576 ∧ ∀ x ∈ ls, x.2.length ≤ 1048576 ∧ sumR x.2 ≤ 16777216 ∧ ∀ y ∈ x.2, y.nm.length ≤ 140737488351232 ∧ Sin y ∧ y.data.length ≤ 8589934592 := by
  have h1 := len_bulk (ls.map lsD).flatten
  have h2 : (ls.map lsD).flatten.length = ls.length := by
    clear hs h h1
    induction ls with
    | nil => rfl
    | cons x r ih => simp only [List.map_cons, List.flatten_cons, List.length_append, ih, lsD, List.length_cons, List.length_nil]; omega
  simp only [bulkL, bulkD] at h
  refine ⟨by omega, fun x hx => ?_⟩
  have h3 := bulk_in hx
  have h4 := secs_small (n := x.2.length) (nz := x.1) (ss := x.2) (r := []) (show bulkL (lsD x) ≤ 1048576 by omega)
  have h5 := bulk_secs x.2
  have h6 : bulkL (x.2.map Sec.cells).flatten ≤ bulkL (lsD x) := by simp only [lsD, bulkL, bulkD]; omega
  refine ⟨h4.1, h4.2.1, fun y hy => ⟨(hs x hx y hy).2, (hs x hx y hy).1, ?_⟩⟩
  have := data_le hy
  omega
end Go.Proofs.Ytpgipjjhapapjaa.elfw
