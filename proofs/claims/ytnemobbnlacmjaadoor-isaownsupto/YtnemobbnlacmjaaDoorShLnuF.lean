/- Lists of numbers: a list is grown place by place. -/
import Derived.Test.YtnemobbnlacmjaaDoorShLnu1
set_option linter.unusedVariables false
set_option linter.unusedSimpArgs false
namespace Go.Sh
section
variable {pr : Prog} {st : St} {p : Nat} {al : List (Nat × List V)} {lab : Nat → Option Nat} {fs : Fs} {pv : List (V × List D)} {R : List V}
theorem loopN3 {a n m : Nat} {f : V} {M MR : List D} (h : Hp 1 st p R lab fs pv al) (ha : a ≠ 0) (ha1 : a ≠ 51) (hf : fs a = some (1, n, f, ofDs M)) (hl51 : lab 51 = none) (hn : n ≤ 1099511627776) (hm : MR.length = m) (hm2 : m ≤ 3070) (hk : ∀ d ∈ MR, KI d) {u G g1 g2 g3 : V} {i : Nat} (hu : u = .d (.sl m true MR)) {Q : Out → Prop}
    (hQ : ∀ e s g, e.get 0 = some (.ptr p 0) → e.get 5 = some G → e.get 6 = some (.d (.i .i64 i)) → e.get 7 = some f → e.get 9 = some g1 → e.get 10 = some g2 → e.get 11 = some g3 → e.get 12 = some u → e.get 13 = some g →
      GrwN st.heap.length s p R lab fs pv al a (n + m) g (M ++ MR) → Gr st s (fun r => lab a = some r ∨ st.heap.length ≤ r) (fun x => ∃ d, x = .d d ∧ KI d) → Q (.exit 6, e, s)) :
    CodeW pr (.loop [0, 5, 6, 7, 9, 10, 11, 12, 13, 14] false F230_spindlelaw0_Nums_write_b3) [(0, .ptr p 0), (5, G), (6, .d (.i .i64 i)), (7, f), (9, g1), (10, g2), (11, g3), (12, u), (13, f), (14, .d (.i .i64 0))] st Q := by
  have hul : lenV u = some m := by rw [hu]; rfl
  refine loopW_j wNu (fun n' e s => ∃ k g, k ≤ m ∧ n' = m - k ∧ e = [(0, .ptr p 0), (5, G), (6, .d (.i .i64 i)), (7, f), (9, g1), (10, g2), (11, g3), (12, u), (13, g), (14, .d (.i .i64 k))] ∧ GrwN st.heap.length s p R lab fs pv al a (n + k) g (M ++ MR.take k) ∧ Gr st s (fun r => lab a = some r ∨ st.heap.length ≤ r) (fun x => ∃ d, x = .d d ∧ KI d)) ?_ (n := m)
    ⟨0, f, Nat.zero_le _, rfl, by simp, .inl ⟨h, by simpa using h.lr _ _ hf⟩, .refl _ _ _⟩
  rintro n' e s ⟨k, g, hkm, rfl, rfl, h1, gr⟩
  have L0 := gr.len
  rcases Nat.lt_or_ge k m with hkl | hkg
  · have w3 : IntKind.wrap .i64 ((k : Int) + 1) = k + 1 := wrap_i64 (by omega) (by omega)
    obtain ⟨y, hy⟩ : ∃ y, MR[k]? = some y := ⟨_, List.getElem?_eq_getElem (by omega)⟩
    obtain ⟨z, rfl⟩ := hk y (List.mem_of_getElem? hy)
    have hia : iaddrV 1 u (.d (.i .i64 (k : Int))) = some (.ep (MR.drop k)) := by
      rw [hu]
      simp [iaddrV, hkl]
    have hld : ∀ s, loadV 1 false s (.ep (MR.drop k)) = some (.d (.i .i64 z)) := fun s => by
      rw [List.drop_eq_getElem_cons (by omega), (List.getElem?_eq_some_iff.1 hy).2]
      simp [loadV, mkV, ofDs]
    obtain ⟨P, hP⟩ : ∃ P, P = V.ep (MR.drop k) := ⟨_, rfl⟩
    rw [← hP] at hia hld
    simp [F230_spindlelaw0_Nums_write_b3, wNu, hul, hkl, hia, hld, fillV, reps, lay, ofDs]
    refine h1.app0 (x := .d (.sl 1 true [.i .i64 z])) (m := 1) (ys := [.i .i64 z]) ha ha1 hf hl51 rfl rfl (by omega) (fun d hd => by
      simp only [List.mem_singleton] at hd
      exact ⟨z, hd⟩) L0 ?_
    intro s1 g' h2 gr1
    simp [F230_spindlelaw0_Nums_write_b3, wNu, w3]
    refine ⟨m - (k + 1), by omega, k + 1, by omega, rfl, g', ⟨rfl, rfl⟩, ?_, gr.trans gr1⟩
    rw [List.take_add_one, hy, Option.toList, ← List.append_assoc, ← Nat.add_assoc]
    exact h2
  · have : k = m := by omega
    subst this
    rw [List.take_of_length_le (by omega)] at h1
    simp [F230_spindlelaw0_Nums_write_b3, wNu, hul]
    exact hQ _ _ g (by simp) (by simp) (by simp) (by simp) (by simp) (by simp) (by simp) (by simp) (by simp) h1 gr
end
end Go.Sh
