/- Lists of symbols: what a list must hold, and the list, grow side by side. -/
import Derived.Test.YtnemobbnlacmjaaShLsyE
set_option linter.unusedVariables false
set_option linter.unusedSimpArgs false
namespace Go.Sh
section
variable {pr : Prog} (hp : Sub syFns pr) {st : St} {p : Nat} {al : List (Nat × List V)} {lab : Nat → Option Nat} {fs : Fs} {pv : List (V × List D)} {R : List V}
include hp
theorem loopY4 (h : Hp 6 st p R lab fs pv al) (hl52 : lab 52 = none) {n : Nat} {f : V} (hlf : lenV f = some n) (hn : n ≤ 1099511627776) {base i : Nat} {A : Int} (hA : IntKind.wrap .i64 ((base : Int) + (i : Int)) = A) {mo g1 g2 g3 : V} {Q : Out → Prop}
    (hQ : ∀ e s w j, e.get 0 = some (.ptr p 0) → e.get 2 = some (.d (.i .i64 base)) → e.get 5 = some mo → e.get 7 = some (.d (.i .i64 i)) → e.get 8 = some f → e.get 9 = some g1 → e.get 10 = some g2 → e.get 11 = some g3 → e.get 12 = some f → e.get 13 = some w →
      Hp 6 s p R (upd lab 52 j) (updF fs 52 (some (6, n, w, ofDs (mkL A 0 n)))) pv al → Gr st s (fun r => st.heap.length ≤ r) (fun _ => True) → (∀ r, j = some r → st.heap.length ≤ r) → Q (.exit 8, e, s)) :
    CodeW pr (.loop [0, 2, 5, 7, 8, 9, 10, 11, 12, 13, 14] false F209_spindlelaw10_Symbols_write_b4) [(0, .ptr p 0), (2, .d (.i .i64 base)), (5, mo), (7, .d (.i .i64 i)), (8, f), (9, g1), (10, g2), (11, g3), (12, f), (13, .d (.sl 0 false [])), (14, .d (.i .i64 0))] st Q := by
  refine loopW_j wSy (fun n' e s => ∃ k w j, k ≤ n ∧ n' = n - k ∧ e = [(0, .ptr p 0), (2, .d (.i .i64 base)), (5, mo), (7, .d (.i .i64 i)), (8, f), (9, g1), (10, g2), (11, g3), (12, f), (13, w), (14, .d (.i .i64 k))] ∧ Hp 6 s p R (upd lab 52 j) (updF fs 52 (some (6, k, w, ofDs (mkL A 0 k)))) pv al ∧ Gr st s (fun r => st.heap.length ≤ r) (fun _ => True) ∧ ∀ r, j = some r → st.heap.length ≤ r) ?_ (n := n) ⟨0, .d (.sl 0 false []), none, Nat.zero_le _, rfl, by simp, h.nil (by omega), .refl _ _ _, fun r hr => (by cases hr)⟩
  rintro n' e s ⟨k, w, j, hk, rfl, rfl, h1, gr, hj⟩
  rcases Nat.lt_or_ge k n with hkl | hkg
  · have w3 : IntKind.wrap .i64 ((k : Int) + 1) = k + 1 := wrap_i64 (by omega) (by omega)
    obtain ⟨X, hX⟩ : ∃ X, X = mkS A (k : Int) := ⟨_, rfl⟩
    have hmk := fun st => den_markS hp (st := st) A (k : Int)
    rw [← hX] at hmk
    have hXl : X.length = 6 := by rw [hX]; rfl
    have hXo : (ofDs X).length = 6 := by rw [ofDs_len, hXl]
    have hlay : lay (ofDs zero6) 0 (ofDs X) = ofDs X := by simp [lay, ofDs, hXl]
    have hv := vwV_lit6 s (ofDs X) hXo
    simp [ofDs] at hlay
    have hok : V.ok1 (.agg (ofDs X)) = true := aggOk X
    have hcs : V.cs (.agg (ofDs X)) = ofDs X := rfl
    simp [F209_spindlelaw10_Symbols_write_b4, wSy, hlf, hkl, hA, hmk, fillV, reps]
    simp [ofDs] at hok hcs hXo hv
    simp [ofDs, hok, hcs, hlay, hXl, hXo]
    refine (h1.push _).app (a := 52) (by omega) updF_eq hv (by simp [hXo]) rfl (by omega) (by omega) ?_
    intro s1 v1 j1 h2 g2' n2
    rw [updF_updF, upd_upd] at h2
    simp [F209_spindlelaw10_Symbols_write_b4, wSy, w3]
    have e1 : ofDs (mkL A 0 k) ++ List.map V.d X = ofDs (mkL A 0 (k + 1)) := by
      rw [mkL_succ, Nat.zero_add, ← hX]
      simp [ofDs]
    rw [e1] at h2
    have L0 := gr.len
    refine ⟨n - (k + 1), by omega, k + 1, by omega, rfl, v1, ⟨rfl, rfl⟩, j1, h2, gr.trans ((Gr.push _).trans (g2'.mono (fun r hr e => ?_) fun _ _ => trivial)), fun r hr => ?_⟩
    · rw [upd_eq] at e
      exact hj r e
    · rcases n2 with e | ⟨q, e, hq, _⟩
      · rw [upd_eq] at e
        exact hj r (by rw [← e]; exact hr)
      · rw [e] at hr
        obtain rfl := Option.some.inj hr
        simp at hq
        omega
  · have : k = n := by omega
    subst this
    simp [F209_spindlelaw10_Symbols_write_b4, wSy, hlf]
    exact hQ _ _ w j (by simp) (by simp) (by simp) (by simp) (by simp) (by simp) (by simp) (by simp) (by simp) (by simp) h1 gr hj
theorem loopY5 {N : Nat} (hN : N ≤ st.heap.length) {a n m : Nat} {f w0 : V} {j0 : Option Nat} {M : List D} (ha : a ≠ 0) (ha1 : a ≠ 51) (ha2 : a ≠ 52) (hf : fs a = some (6, n, f, ofDs M)) (h : Hp 6 st p R (upd lab 52 j0) (updF fs 52 (some (6, n, w0, ofDs M))) pv al) (hj0 : ∀ r, j0 = some r → N ≤ r) (hl51 : lab 51 = none) (hn : n ≤ 1099511627776) (hm : m ≤ 3000) {mo : V} (hlm : lenV mo = some m) {base i : Nat} {A : Int} (hA : IntKind.wrap .i64 ((base : Int) + (i : Int)) = A) {g1 g2 g3 : V} {Q : Out → Prop}
    (hQ : ∀ e s g w j, e.get 0 = some (.ptr p 0) → e.get 2 = some (.d (.i .i64 base)) → e.get 5 = some mo → e.get 7 = some (.d (.i .i64 i)) → e.get 9 = some g1 → e.get 10 = some g2 → e.get 11 = some g3 → e.get 12 = some g → e.get 13 = some w →
      GrwS N s p R (upd lab 52 j) (updF fs 52 (some (6, n + m, w, ofDs (M ++ mkL A 1000 m)))) pv al a (n + m) g (M ++ mkL A 1000 m) → Gr st s (fun r => lab a = some r ∨ N ≤ r) (fun x => ∃ d, x = .d d ∧ KI d) → (∀ r, j = some r → N ≤ r) → Q (.exit 10, e, s)) :
    CodeW pr (.loop [0, 2, 5, 7, 9, 10, 11, 12, 13, 15] false F209_spindlelaw10_Symbols_write_b5) [(0, .ptr p 0), (2, .d (.i .i64 base)), (5, mo), (7, .d (.i .i64 i)), (9, g1), (10, g2), (11, g3), (12, f), (13, w0), (15, .d (.i .i64 0))] st Q := by
  refine loopW_j wSy (fun n' e s => ∃ k g w j, k ≤ m ∧ n' = m - k ∧ e = [(0, .ptr p 0), (2, .d (.i .i64 base)), (5, mo), (7, .d (.i .i64 i)), (9, g1), (10, g2), (11, g3), (12, g), (13, w), (15, .d (.i .i64 k))] ∧ GrwS N s p R (upd lab 52 j) (updF fs 52 (some (6, n + k, w, ofDs (M ++ mkL A 1000 k)))) pv al a (n + k) g (M ++ mkL A 1000 k) ∧ Gr st s (fun r => lab a = some r ∨ N ≤ r) (fun x => ∃ d, x = .d d ∧ KI d) ∧ ∀ r, j = some r → N ≤ r) ?_ (n := m)
    ⟨0, f, w0, j0, Nat.zero_le _, rfl, by simp, .inl ⟨by simpa [mkL] using h, by have := h.lr a (6, n, f, ofDs M) (by rw [updF_ne ha2]; exact hf); simpa [mkL] using this⟩, .refl _ _ _, hj0⟩
  rintro n' e s ⟨k, g, w, j, hk, rfl, rfl, h1, gr, hj⟩
  have L0 := gr.len
  rcases Nat.lt_or_ge k m with hkl | hkg
  · have w3 : IntKind.wrap .i64 ((k : Int) + 1) = k + 1 := wrap_i64 (by omega) (by omega)
    have w4 : IntKind.wrap .i64 (1000 + (k : Int)) = ((1000 + k : Nat) : Int) := by rw [wrap_i64 (by omega) (by omega)]; omega
    obtain ⟨q, hq⟩ : ∃ q : Int, q = ((1000 + k : Nat) : Int) := ⟨_, rfl⟩
    rw [← hq] at w4
    obtain ⟨X, hX⟩ : ∃ X, X = mkS A q := ⟨_, rfl⟩
    have hmk := fun st => den_markS hp (st := st) A q
    rw [← hX] at hmk
    have hXl : X.length = 6 := by rw [hX]; rfl
    have hXk : ∀ d ∈ X, KI d := by rw [hX]; exact mkS_k _ _
    have hXo : (ofDs X).length = 6 := by rw [ofDs_len, hXl]
    have hlay : lay (ofDs zero6) 0 (ofDs X) = ofDs X := by simp [lay, ofDs, hXl]
    have hv := fun s => vwV_lit6 s (ofDs X) hXo
    simp [ofDs] at hlay
    have hok : V.ok1 (.agg (ofDs X)) = true := aggOk X
    have hcs : V.cs (.agg (ofDs X)) = ofDs X := rfl
    have hms : mkL A 1000 (k + 1) = mkL A 1000 k ++ X := by rw [mkL_succ, hX, hq]
    simp [F209_spindlelaw10_Symbols_write_b5, wSy, hlm, hkl, hA, w4, hmk, fillV, reps]
    simp [ofDs] at hok hcs hXo hv
    simp [ofDs, hok, hcs, hlay, hXl, hXo]
    refine h1.app (x := .rsl 6 s.heap.length 0 1 1) (m := 1) (ys := X) ha ha1 (by rw [updF_ne ha2]; exact hf) (by rw [upd_ne (by omega)]; exact hl51) (by simpa [ofDs] using hv s) (by rw [hXl]) (by omega) (by omega) hXk (by omega) ?_
    intro s1 g' h2 gr1
    have L1 := gr1.len
    simp [F209_spindlelaw10_Symbols_write_b5, wSy, hA, w4, hmk, fillV, reps]
    simp [ofDs, hok, hcs, hlay, hXl, hXo]
    have h3 : GrwS N (s1.push (.row (List.map V.d X))) p R (upd lab 52 j) (updF fs 52 (some (6, n + k, w, ofDs (M ++ mkL A 1000 k)))) pv al a (n + k + 1) g' (M ++ mkL A 1000 k ++ X) := by
      rcases h2 with ⟨h2, hg⟩ | ⟨j', hj', h2⟩
      · exact .inl ⟨h2.push _, hg.gr (A := fun _ => False) (P := fun _ => True) (.push _) fun _ _ h => h⟩
      · exact .inr ⟨j', hj', h2.push _⟩
    refine h3.appB (m := 1) (ys := X) ha2 (by simpa [ofDs] using hv s1) (by rw [hXl]) (by omega) hj (by simp at L1 ⊢; omega) ?_
    intro s2 w' j' h4 gr2 hj'
    simp [F209_spindlelaw10_Symbols_write_b5, wSy, w3]
    refine ⟨m - (k + 1), by omega, k + 1, by omega, rfl, g', w', ⟨rfl, rfl, rfl⟩, j', ?_, ?_, hj'⟩
    · have e2 : List.map V.d M ++ List.map V.d (mkL A 1000 k ++ X) = ofDs (M ++ mkL A 1000 k ++ X) := by simp [ofDs]
      rw [hms, e2, ← Nat.add_assoc, ← List.append_assoc]
      have e1 : ofDs (M ++ mkL A 1000 k) ++ ofDs X = ofDs (M ++ mkL A 1000 k ++ X) := by simp [ofDs]
      rw [e1] at h4
      exact h4
    · refine gr.trans ((Gr.push _).trans ((gr1.mono (fun r hr e => ?_) fun _ h => h).trans ((Gr.push _).trans (gr2.mono (fun r hr e => .inr e) fun x hx => ?_))))
      · rwa [upd_ne ha2] at e
      · simp only [ofDs, List.mem_map] at hx
        obtain ⟨d, hd, rfl⟩ := hx
        exact ⟨d, rfl, hXk d hd⟩
  · have : k = m := by omega
    subst this
    simp [F209_spindlelaw10_Symbols_write_b5, wSy, hlm]
    exact hQ _ _ g w j (by simp) (by simp) (by simp) (by simp) (by simp) (by simp) (by simp) (by simp) (by simp) h1 gr hj
end
end Go.Sh
