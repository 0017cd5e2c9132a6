/- The law IsaMay on shadow runs. -/
import Derived.Test.YtnemobbnlacmjaaDoorShLisaMay
import Derived.Test.YtnemobbnlacmjaaDoorShLins
import Derived.Test.YtnemobbnlacmjaaDoorShFlaw2
import Derived.Test.YtnemobbnlacmjaaDoorShFlaw0
set_option linter.unusedVariables false
set_option linter.unusedSimpArgs false
namespace Go.Sh
def law2Fns : List (Nat × SFn) := [(12, F12_spindlelaw0_Num), (25, F25_spindlelaw2_awake), (66, F66_spindlelaw2_IsaMay)]
def awFns : List (Nat × SFn) := [(25, F25_spindlelaw2_awake)]
theorem den_awake2 {pr : Prog} (hI : IsaOk pr) (hq : Sub awFns pr) {st : St} : den pr 25 [] st = some (.d (.b true), st) := by
  refine den_shut (hq.at 0 rfl) rfl rfl (by simp; rfl) ?_
  have h1 := fun st => den_may hI (st := st) ⟨55, 1, 0, 1, 5⟩
  have h2 := fun st => den_may hI (st := st) ⟨39, 1, 0, 1, 5⟩
  have e1 : mayV ⟨55, 1, 0, 1, 5⟩ = 0 := by decide
  have e2 : mayV ⟨39, 1, 0, 1, 5⟩ = 21 := by decide
  rw [e1] at h1
  rw [e2] at h2
  simp only [Ins.cells, ofDs, List.map_cons, List.map_nil] at h1 h2
  simp [F25_spindlelaw2_awake, fillV, lay, ofDs, h1, h2]
section
variable {pr : Prog} (hI : IsaOk pr) (hR : RefOk pr) (hq : Sub law2Fns pr) {st : St}
include hq
theorem den_num2 (x : Int) : den pr 12 [.d (.i .i64 x)] st = some (.d (.i .i64 x), st) := den_shut (hq.at 0 rfl) rfl rfl (by simp; rfl) (by simp [F12_spindlelaw0_Num])
include hI
include hR
theorem law_IsaMay (nz : Bool) (is : List Ins) (hl : is.length ≤ 9223372036854775806) : den pr 66 [dsl Ins.cells nz is] st = some (.d (.b true), st) := by
  refine den_shut (hq.at 2 rfl) rfl rfl (by simp; rfl) ?_
  have hu := dsl_d insC nz is
  simp [F66_spindlelaw2_IsaMay]
  generalize hL : cden pr (.loop _ _ _) _ _ = o
  obtain ⟨r, rfl, hQ⟩ : ∃ r, o = some r ∧ ∃ e, r = (.exit 0, e, s0 [] [] 0 0) := by
    rw [← hL]
    refine loop_n is.length (fun i => [(0, dsl Ins.cells nz is), (3, .d (.i .i64 i))]) (fun _ => s0 [] [] 0 0) ?_ (by simp) (by simp)
    intro i hi
    rcases Nat.lt_or_ge i is.length with h | h
    · obtain ⟨x, hx⟩ : ∃ x, is[i]? = some x := ⟨_, List.getElem?_eq_getElem h⟩
      have h1 : IntKind.wrap .i64 ((i : Int) + 1) = i + 1 := wrap_i64 (by omega) (by omega)
      have hia := hu.iaddr (i := (i : Int)) (k := .i64) (by omega) (by simp; omega)
      have hld := fun st => hu.load (st := st) (i := i) (o := 0) (n := 5) (agg := true) (el := x.cells) (by simp [hx]) (by omega) (by omega)
      have hm1 := fun st => den_may hI (st := st) x
      have hm2 := fun st => den_rmay hR (st := st) x
      have hn := fun y st => den_num2 hq (st := st) y
      simp [F66_spindlelaw2_IsaMay_b0, h, hia, hld, ins_take, hm1, hm2, hn, h1]
    · have hil : i = is.length := by omega
      simp [F66_spindlelaw2_IsaMay_b0, hil]
  obtain ⟨e, rfl⟩ := hQ
  have ha := fun st => den_awake2 hI (fun x hx => hq x (by simp only [awFns, List.mem_singleton] at hx; subst hx; simp [law2Fns])) (st := st)
  simp [ha]
end
end Go.Sh
