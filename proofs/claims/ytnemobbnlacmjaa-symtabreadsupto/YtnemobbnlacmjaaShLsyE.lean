/- Lists of symbols: the loops that grow. -/
import Derived.Test.YtnemobbnlacmjaaShLsyD
set_option linter.unusedVariables false
set_option linter.unusedSimpArgs false
namespace Go.Sh
section
variable {pr : Prog} (hp : Sub syFns pr) {st : St} {p : Nat} {b : Syb} {al : List (Nat × List V)} {lab : Nat → Option Nat} {fs : Fs} {pv : List (V × List D)}
include hp
theorem loopY2 (h : Hp 6 st p b.R lab fs pv al) (hl50 : lab 50 = none) (ht : 0 ≤ b.total ∧ b.total ≤ 549755813888) {base : Nat} (hb : base ≤ 1000000000) {Q : Out → Prop}
    (hQ : ∀ e s v m E j, e.get 0 = some (.ptr p 0) → e.get 2 = some (.d (.i .i64 base)) → e.get 5 = some v → Hp 6 s p b.R (upd lab 50 j) (updF fs 50 (some (6, m, v, ofDs E))) pv al → (∀ d ∈ E, KI d) → m ≤ 3000 → E.length = m * 6 → Q (.exit 4, e, s)) :
    CodeW pr (.loop [0, 2, 5, 6] false F209_spindlelaw10_Symbols_write_b2) [(0, .ptr p 0), (2, .d (.i .i64 base)), (5, .d (.sl 0 false [])), (6, .d (.i .i64 0))] st Q := by
  refine loopW_j wSy (fun n e s => ∃ k v E j, k ≤ 3000 ∧ n = 3000 - k ∧ e = [(0, .ptr p 0), (2, .d (.i .i64 base)), (5, v), (6, .d (.i .i64 k))] ∧ Hp 6 s p b.R (upd lab 50 j) (updF fs 50 (some (6, k, v, ofDs E))) pv al ∧ (∀ d ∈ E, KI d) ∧ E.length = k * 6) ?_ (n := 3000) ⟨0, .d (.sl 0 false []), [], none, by omega, rfl, by simp, h.nil (by omega), fun d hd => (by cases hd), rfl⟩
  rintro n e s ⟨k, v, E, j, hk, rfl, rfl, h1, hEk, hEl⟩
  have hrow := h1.row
  simp only [Syb.R] at hrow
  have wt : IntKind.wrap .i64 (b.total + 20) = b.total + 20 := wrap_i64 (by omega) (by omega)
  by_cases c1 : (k : Int) < b.total + 20
  · by_cases c2 : k < 3000
    · have c2I : (k : Int) < 3000 := by omega
      have w1 : IntKind.wrap .i64 ((base : Int) + 9) = base + 9 := wrap_i64 (by omega) (by omega)
      have w2 : IntKind.wrap .i64 ((k : Int) + 5) = k + 5 := wrap_i64 (by omega) (by omega)
      have w3 : IntKind.wrap .i64 ((k : Int) + 1) = k + 1 := wrap_i64 (by omega) (by omega)
      obtain ⟨X, hX⟩ : ∃ X, X = mkS ((base : Int) + 9) ((k : Int) + 5) := ⟨_, rfl⟩
      have hmk := fun st => den_markS hp (st := st) ((base : Int) + 9) ((k : Int) + 5)
      rw [← hX] at hmk
      have hXl : X.length = 6 := by rw [hX]; rfl
      have hXk : ∀ d ∈ X, KI d := by rw [hX]; exact mkS_k _ _
      have hXo : (ofDs X).length = 6 := by rw [ofDs_len, hXl]
      have hlay : lay (ofDs zero6) 0 (ofDs X) = ofDs X := by simp [lay, ofDs, hXl]
      have hv := vwV_lit6 s (ofDs X) hXo
      have hok : V.ok1 (.agg (ofDs X)) = true := aggOk X
      have hcs : V.cs (.agg (ofDs X)) = ofDs X := rfl
      simp [ofDs] at hlay
      simp [F209_spindlelaw10_Symbols_write_b2, wSy, hrow, wt, c1, c2, c2I, w1, w2, hmk, fillV, reps]
      simp [ofDs] at hok hcs hXo hv
      simp [ofDs, hok, hcs, hlay, hXl, hXo]
      refine (h1.push _).app (a := 50) (by omega) updF_eq hv (by simp [hXo]) rfl (by omega) (by omega) ?_
      intro s1 v1 j1 h2 g2 n2
      rw [updF_updF, upd_upd] at h2
      simp [F209_spindlelaw10_Symbols_write_b2, wSy, w3]
      refine ⟨3000 - (k + 1), by omega, k + 1, by omega, rfl, v1, ⟨rfl, rfl⟩, E ++ X, ⟨j1, by simpa [ofDs] using h2⟩, fun d hd => ?_, by rw [List.length_append, hEl, hXl, Nat.succ_mul]⟩
      rcases List.mem_append.1 hd with hd | hd
      · exact hEk d hd
      · exact hXk d hd
    · have c2I : ¬ (k : Int) < 3000 := by omega
      simp [F209_spindlelaw10_Symbols_write_b2, wSy, hrow, wt, c1, c2, c2I]
      exact hQ _ _ v k E j (by simp) (by simp) (by simp) h1 hEk (by omega) hEl
  · simp [F209_spindlelaw10_Symbols_write_b2, wSy, hrow, wt, c1]
    exact hQ _ _ v k E j (by simp) (by simp) (by simp) h1 hEk (by omega) hEl
end
end Go.Sh
