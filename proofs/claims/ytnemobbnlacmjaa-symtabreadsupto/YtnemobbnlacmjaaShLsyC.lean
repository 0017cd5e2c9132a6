/- Lists of symbols: they are written over. -/
import Derived.Test.YtnemobbnlacmjaaShLsyB
set_option linter.unusedVariables false
set_option linter.unusedSimpArgs false
namespace Go.Sh
theorem lay_midD {a c d : List D} {b : List D} {o : Nat} (ho : a.length = o) (h : b.length = d.length) : lay (ofDs (a ++ (b ++ c))) o (ofDs d) = ofDs (a ++ (d ++ c)) := by
  subst ho
  unfold lay
  have e1 : (ofDs (a ++ (b ++ c))).take a.length = ofDs a := by
    rw [show a ++ (b ++ c) = a ++ (b ++ c) from rfl, ofDs, List.map_append, List.take_left' (by simp)]
    rfl
  have e2 : (ofDs (a ++ (b ++ c))).drop (a.length + (ofDs d).length) = ofDs c := by
    rw [← List.append_assoc, show ofDs (a ++ b ++ c) = (a ++ b).map V.d ++ c.map V.d from List.map_append, List.drop_left' (by simp [ofDs, h])]
    rfl
  rw [e1, e2]
  simp [ofDs]
/-- What is kept of symbols. -/
structure Syb where
  total : Int
  F : V
  H : V
  K : V
  W : V
  fr : List (V × List D)
  held : List V
  kv : List V
  wv : List V
def Syb.R (b : Syb) : List V := [.d (.i .i64 b.total), .d (.b false), b.F, b.H, b.K, b.W]
structure SyI (s : St) (p : Nat) (b : Syb) (lab : Nat → Option Nat) (fs : Fs) (pv : List (V × List D)) (al : List (Nat × List V)) : Prop where
  hp : Hp 6 s p b.R lab fs pv al
  f1 : fs 1 = some (1, b.fr.length, b.F, b.fr.map (·.1))
  f2 : fs 2 = some (1, b.fr.length, b.H, b.held)
  f4 : fs 4 = some (1, b.kv.length, b.K, b.kv)
  f5 : fs 5 = some (1, b.kv.length, b.W, b.wv)
  ff : ∀ (i : Nat) x, b.fr[i]? = some x → ∃ n, fs (i + 6) = some (6, n, x.1, ofDs x.2) ∧ n ≤ 1099511627776 ∧ ∀ d ∈ x.2, KI d
  hh : ∀ (i : Nat) x h, b.fr[i]? = some x → b.held[i]? = some h → (h, x.2) ∈ pv
  kw : ∀ (i : Nat) k w, b.kv[i]? = some k → b.wv[i]? = some w → Pr2 pv k w
  none : ∀ a, b.fr.length + 6 ≤ a → lab a = none ∧ fs a = none
  small : b.fr.length ≤ 3 ∧ b.kv.length ≤ 900000000
  total : 0 ≤ b.total ∧ b.total ≤ 549755813888
section
variable {pr : Prog} (hp : Sub syFns pr) {st : St} {p : Nat} {b : Syb} {al : List (Nat × List V)} {lab : Nat → Option Nat} {fs : Fs} {pv : List (V × List D)}
/-- The lists are written over: i have been. -/
structure PY (s : St) (p : Nat) (b : Syb) (i : Nat) (lab : Nat → Option Nat) (fs fs' : Fs) (pv : List (V × List D)) (al : List (Nat × List V)) : Prop where
  hp : Hp 6 s p b.R lab fs' pv al
  same : ∀ a, (a < 6 ∨ b.fr.length + 6 ≤ a) → fs' a = fs a
  fr : ∀ (t : Nat) x, b.fr[t]? = some x → ∃ n, fs' (t + 6) = some (6, n, x.1, ofDs (if t < i then mkL ((b.kv.length + t : Nat) : Int) 0 n else x.2)) ∧ n ≤ 1099511627776 ∧ x.2.length = n * 6
include hp
theorem loopY1 (h : SyI st p b lab fs pv al) {Q : Out → Prop} (hQ : ∀ e s fs', e.get 0 = some (.ptr p 0) → e.get 2 = some (.d (.i .i64 b.kv.length)) → PY s p b b.fr.length lab fs fs' pv al → Q (.exit 0, e, s)) :
    CodeW pr (.loop [0, 2, 3] false F209_spindlelaw10_Symbols_write_b0) [(0, .ptr p 0), (2, .d (.i .i64 b.kv.length)), (3, .d (.i .i64 0))] st Q := by
  have hsm := h.small
  refine loopW_j wSy (fun n e s => ∃ i fs', i ≤ b.fr.length ∧ n = b.fr.length - i ∧ e = [(0, .ptr p 0), (2, .d (.i .i64 b.kv.length)), (3, .d (.i .i64 i))] ∧ PY s p b i lab fs fs' pv al) ?_ (n := b.fr.length) ⟨0, fs, Nat.zero_le _, rfl, by simp, h.hp, fun _ _ => rfl, fun t x hx => by
    obtain ⟨n, f1, f2, f3⟩ := h.ff t x hx
    have := ((h.hp.lr _ _ f1).lst).2.2
    exact ⟨n, by rw [if_neg (by omega)]; exact f1, f2, this⟩⟩
  rintro n e s ⟨i, fs', hi, rfl, rfl, hw⟩
  have hrow := hw.hp.row
  simp only [Syb.R] at hrow
  have hf1 : fs' 1 = some (1, b.fr.length, b.F, b.fr.map (·.1)) := (hw.same 1 (by omega)).trans h.f1
  have hlF := hw.hp.len hf1
  rcases Nat.lt_or_ge i b.fr.length with hlt | hge
  rotate_left
  · have : i = b.fr.length := by omega
    subst this
    simp [F209_spindlelaw10_Symbols_write_b0, wSy, hrow, hlF]
    exact hQ _ _ fs' (by simp) (by simp) hw
  obtain ⟨x, hx⟩ : ∃ x, b.fr[i]? = some x := ⟨_, List.getElem?_eq_getElem hlt⟩
  obtain ⟨n, hfi, hn, hxl⟩ := hw.fr i x hx
  rw [if_neg (by omega)] at hfi
  have w1 : IntKind.wrap .i64 ((i : Int) + 1) = i + 1 := wrap_i64 (by omega) (by omega)
  have w2 : IntKind.wrap .i64 ((b.kv.length : Int) + (i : Int)) = ((b.kv.length + i : Nat) : Int) := by rw [wrap_i64 (by omega) (by omega)]; omega
  obtain ⟨A, hA⟩ : ∃ A : Int, A = ((b.kv.length + i : Nat) : Int) := ⟨_, rfl⟩
  rw [← hA] at w2
  simp [F209_spindlelaw10_Symbols_write_b0, wSy, hrow, hlF, hlt]
  refine loopW_j wSy (fun n' e s' => ∃ k fs2, k ≤ n ∧ n' = n - k ∧ e = [(0, .ptr p 0), (2, .d (.i .i64 b.kv.length)), (3, .d (.i .i64 i)), (4, .d (.i .i64 k))] ∧ Hp 6 s' p b.R lab fs2 pv al ∧ (∀ a, a ≠ i + 6 → fs2 a = fs' a) ∧ fs2 (i + 6) = some (6, n, x.1, ofDs (mkL A 0 k ++ x.2.drop (k * 6)))) ?_ (n := n)
    ⟨0, fs', Nat.zero_le _, rfl, by simp, hw.hp, fun _ _ => rfl, by simpa [mkL] using hfi⟩
  rintro n' e s' ⟨k, fs2, hk, rfl, rfl, h2, hs2, hf2⟩
  have hrow2 := h2.row
  simp only [Syb.R] at hrow2
  have hf21 : fs2 1 = some (1, b.fr.length, b.F, b.fr.map (·.1)) := (hs2 1 (by omega)).trans hf1
  obtain ⟨jF, cF, hjF, b1, b2, b3, b4⟩ := h2.get hf21 i (x := x.1) (by simp [hx]) (k := .i64)
  have hlx := h2.len hf2
  rcases Nat.lt_or_ge k n with hkl | hkg
  · have w3 : IntKind.wrap .i64 ((k : Int) + 1) = k + 1 := wrap_i64 (by omega) (by omega)
    obtain ⟨X, hX⟩ : ∃ X, X = mkS A (k : Int) := ⟨_, rfl⟩
    have hmk := fun st => den_markS hp (st := st) A (k : Int)
    rw [← hX] at hmk
    have hXl : X.length = 6 := by rw [hX]; rfl
    have hXo : (ofDs X).length = 6 := by rw [ofDs_len, hXl]
    obtain ⟨j0, c', e1, e2, e3, e4, e5, h3, g3⟩ := h2.write (a := i + 6) (by omega) hf2 hkl (ys := ofDs X) hXo
    have hdr : x.2.drop (k * 6) = (x.2.drop (k * 6)).take 6 ++ x.2.drop ((k + 1) * 6) := by
      conv => lhs; rw [← List.take_append_drop 6 (x.2.drop (k * 6))]
      rw [List.drop_drop, Nat.succ_mul]
    have hlay : lay (ofDs (mkL A 0 k ++ x.2.drop (k * 6))) (k * 6) (ofDs X) = ofDs (mkL A 0 (k + 1) ++ x.2.drop ((k + 1) * 6)) := by
      rw [hdr, lay_midD (mkL_len A 0 k) (by rw [List.length_take, List.length_drop, hXl]; omega), mkL_succ, hX, Nat.zero_add, List.append_assoc]
    rw [hlay] at h3
    have hset : ∀ cs, s'.setBlk j0 (.row cs) = some (s'.put j0 cs) := fun cs => setBlk_put h2.fl
    have hok : V.ok1 (.agg (ofDs X)) = true := aggOk X
    have hcs : V.cs (.agg (ofDs X)) = ofDs X := rfl
    obtain ⟨s3, hs3⟩ : ∃ s3, s3 = s'.put j0 (lay c' (k * 6) (ofDs X)) := ⟨_, rfl⟩
    rw [← hs3] at h3
    simp [F209_spindlelaw10_Symbols_write_b1, wSy, hrow2, b1, b2, b3, b4, hlx, hkl, w2, hmk, e2, e3, e4, hset, hok, hcs, hXo, ← hs3, w3]
    refine ⟨n - (k + 1), by omega, k + 1, by omega, rfl, rfl, _, h3, fun a ha => ?_, by rw [updF_eq]⟩
    rw [updF_ne ha]
    exact hs2 a ha
  · have : k = n := by omega
    subst this
    rw [List.drop_of_length_le (by omega), List.append_nil] at hf2
    simp [F209_spindlelaw10_Symbols_write_b1, wSy, hrow2, b1, b2, b3, b4, hlx, w1]
    refine ⟨b.fr.length - (i + 1), by omega, i + 1, by omega, rfl, rfl, fs2, h2, fun a ha => ?_, fun t y hy => ?_⟩
    · rw [hs2 a (by omega)]; exact hw.same a ha
    · have htl := (List.getElem?_eq_some_iff.1 hy).1
      by_cases hti : t = i
      · subst hti
        rw [hx] at hy
        obtain rfl := Option.some.inj hy
        exact ⟨k, by rw [if_pos (by omega), hf2, hA], hn, hxl⟩
      · obtain ⟨m, f1, f2, f3⟩ := hw.fr t y hy
        refine ⟨m, ?_, f2, f3⟩
        rw [hs2 (t + 6) (by omega), f1]
        by_cases h5 : t < i
        · rw [if_pos h5, if_pos (by omega)]
        · rw [if_neg h5, if_neg (by omega)]
end
end Go.Sh
