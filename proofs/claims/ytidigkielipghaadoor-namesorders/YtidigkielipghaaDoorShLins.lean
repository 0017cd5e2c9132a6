/- Instructions as arguments of laws. -/
import Derived.Test.YtidigkielipghaaDoorShBe
import Derived.Test.YtidigkielipghaaDoorShLisa
set_option linter.unusedVariables false
namespace Go.Sh
theorem insC (x : Ins) : x.cells.length = 5 := rfl
theorem ins_take (x : Ins) : x.cells.take 5 = x.cells := List.take_of_length_le (by simp [insC])
def okI (x : Int) : Prop := -9223372036854775808 ≤ x ∧ x ≤ 9223372036854775807
structure Ins.wf (x : Ins) : Prop where
  op : okI x.op
  dst : okI x.dst
  src : okI x.src
  off : okI x.off
  imm : okI x.imm
def insTy : Ty := .agg [.int .i64, .int .i64, .int .i64, .int .i64, .int .i64]
theorem ins_of {el : List D} (h : Has insTy el) : ∃ x : Ins, el = x.cells ∧ x.wf := by
  simp only [insTy, Has, Hass] at h
  obtain ⟨_, _, rfl, ⟨a, rfl, a1, a2⟩, _, _, rfl, ⟨b, rfl, b1, b2⟩, _, _, rfl, ⟨c, rfl, c1, c2⟩, _, _, rfl, ⟨d, rfl, d1, d2⟩, _, _, rfl, ⟨e, rfl, e1, e2⟩, rfl⟩ := h
  exact ⟨⟨a, b, c, d, e⟩, rfl, ⟨a1, a2⟩, ⟨b1, b2⟩, ⟨c1, c2⟩, ⟨d1, d2⟩, ⟨e1, e2⟩⟩
theorem inss_of : ∀ {els : List (List D)}, (∀ x ∈ els, Has insTy x) → ∃ is : List Ins, els = is.map Ins.cells ∧ ∀ x ∈ is, x.wf
  | [], _ => ⟨[], rfl, fun _ h => by cases h⟩
  | x :: els, h => by
    obtain ⟨y, rfl, hy⟩ := ins_of (h x List.mem_cons_self)
    obtain ⟨is, rfl, his⟩ := inss_of fun z hz => h z (List.mem_cons_of_mem _ hz)
    refine ⟨y :: is, rfl, ?_⟩
    intro z hz
    cases hz with
    | head => exact hy
    | tail _ hz => exact his z hz
end Go.Sh
