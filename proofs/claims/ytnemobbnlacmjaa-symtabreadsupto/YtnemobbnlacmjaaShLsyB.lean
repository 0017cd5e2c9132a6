/- Lists of symbols: what is kept; marks. -/
import Derived.Test.YtnemobbnlacmjaaShLsyA
set_option linter.unusedVariables false
set_option linter.unusedSimpArgs false
namespace Go.Sh
/-- A mark. -/
def mkS (a k : Int) : List D := [.i .i64 (IntKind.wrap .i64 (-1 - a)), .i .i64 k, .i .i64 7, .i .i64 a, .i .i64 (IntKind.wrap .i64 (k + a)), .i .i64 9]
theorem mkS_len (a k : Int) : (mkS a k).length = 6 := rfl
theorem mkS_k (a k : Int) : ∀ d ∈ mkS a k, KI d := by
  intro d hd
  simp only [mkS, List.mem_cons, List.not_mem_nil, or_false] at hd
  rcases hd with rfl | rfl | rfl | rfl | rfl | rfl <;> exact ⟨_, rfl⟩
/-- So many marks. -/
def mkL (a : Int) (o : Nat) (n : Nat) : List D := ((List.range n).map fun k : Nat => mkS a ((o + k : Nat) : Int)).flatten
theorem mkL_succ (a : Int) (o n : Nat) : mkL a o (n + 1) = mkL a o n ++ mkS a ((o + n : Nat) : Int) := by simp [mkL, List.range_succ]
theorem mkL_len (a : Int) (o : Nat) : ∀ n, (mkL a o n).length = n * 6
  | 0 => rfl
  | n + 1 => by rw [mkL_succ, List.length_append, mkL_len a o n, mkS_len, Nat.succ_mul]
theorem mkL_k (a : Int) (o : Nat) : ∀ n, ∀ d ∈ mkL a o n, KI d
  | 0 => by intro d hd; cases hd
  | n + 1 => by
    intro d hd
    rw [mkL_succ, List.mem_append] at hd
    rcases hd with hd | hd
    · exact mkL_k a o n d hd
    · exact mkS_k _ _ d hd
section
variable {pr : Prog} (hp : Sub syFns pr) {st : St} {p : Nat} {lab : Nat → Option Nat} {fs : Fs} {pv : List (V × List D)} {al : List (Nat × List V)}
include hp
theorem den_markS (a k : Int) : den pr 210 [.d (.i .i64 a), .d (.i .i64 k)] st = some (.agg (ofDs (mkS a k)), st) := by
  refine den_shut (hp.at 5 rfl) rfl rfl (by simp; rfl) ?_
  simp [F210_spindlelaw10_markSymbols, fillV, lay, ofDs, mkS]
theorem callW_HoldsY {t F H K W : V} {n n' : Nat} {fv hv kv wv : List V} (h : Hp 6 st p [t, .d (.b false), F, H, K, W] lab fs pv al) (f1 : fs 1 = some (1, n, F, fv)) (f2 : fs 2 = some (1, n, H, hv)) (f4 : fs 4 = some (1, n', K, kv)) (f5 : fs 5 = some (1, n', W, wv)) (hn : n ≤ 1000000000) (hn' : n' ≤ 1000000000)
    (hh : ∀ (i : Nat) f g, fv[i]? = some f → hv[i]? = some g → ∃ L, Lst st 6 f L ∧ Lst st 6 g L ∧ (∀ d ∈ L, KI d) ∧ L.length ≤ 9223372036854775806)
    (hk : ∀ (i : Nat) f g, kv[i]? = some f → wv[i]? = some g → ∃ L, Lst st 6 f L ∧ Lst st 6 g L ∧ (∀ d ∈ L, KI d) ∧ L.length ≤ 9223372036854775806) : CallW pr 205 [.ptr p 0] st fun r s => s = st ∧ r = .d (.b true) := by
  refine .run wSy (hp.at 3 rfl) rfl ?_
  rw [start_raw _ rfl]
  refine codeC_of ?_
  have hrow := h.row
  simp [F205_spindlelaw10_Symbols_Holds, wSy]
  refine (callW_untouchedS hp h rfl f1 f2 hn hh).mono ?_
  rintro r s ⟨rfl, rfl⟩
  simp [wSy, hrow]
  refine (callW_sameAll hp h rfl f4 f5 hn' hk).mono ?_
  rintro r s ⟨rfl, rfl⟩
  simp [FinW]
/-- A list more is kept. -/
theorem callW_keepY {t bad F H K W k w : V} {n : Nat} {kv wv : List V} (h : Hp 6 st p [t, bad, F, H, K, W] lab fs pv al) (f4 : fs 4 = some (1, n, K, kv)) (f5 : fs 5 = some (1, n, W, wv)) (hk : k.ok1 = true ∧ k.cs = [k]) (hw : w.ok1 = true ∧ w.cs = [w]) (hn : n ≤ 1000000000) {Q : V → St → Prop}
    (hQ : ∀ s K' W' j4 j5, Hp 6 s p [t, bad, F, H, K', W'] (upd (upd lab 4 j4) 5 j5) (updF (updF fs 4 (some (1, n + 1, K', kv ++ [k]))) 5 (some (1, n + 1, W', wv ++ [w]))) pv al → Gr st s (fun r => r = p ∨ lab 4 = some r ∨ lab 5 = some r) (fun _ => True) → Q (.tup []) s) : CallW pr 211 [.ptr p 0, k, w] st Q := by
  refine .run wSy (hp.at 4 rfl) rfl ?_
  rw [start_raw _ rfl]
  refine codeC_of ?_
  have hrow := h.row
  have hpl := row_lt hrow
  have hv := vwV_lit st k
  simp [F211_spindlelaw10_Symbols_keep, hrow, hpl, fillV, reps, ofDs, hk, lay, hv]
  refine (h.push _).app (a := 4) (by omega) f4 hv (by simp) rfl (by omega) (by omega) ?_
  intro s1 K1 j4 h1 g1 n1
  have hfl1 : s1.floor = 0 := h1.fl
  have hrow1 := h1.row
  have hset1 : ∀ cs, s1.setBlk p (.row cs) = some (s1.put p cs) := fun cs => setBlk_put hfl1
  obtain ⟨h2, g2⟩ := h1.put (R' := [t, bad, F, H, K1, W]) rfl
  have hk1 := h1.one (a := 4) (updF_eq)
  obtain ⟨s2, hs2⟩ : ∃ s2, s2 = s1.put p [t, bad, F, H, K1, W] := ⟨_, rfl⟩
  rw [← hs2] at h2 g2
  have hrow2 := h2.row
  have hpl2 := row_lt hrow2
  have hv2 := vwV_lit s2 w
  simp [hrow1, hset1, lay, hk1, ← hs2, hrow2, hpl2, fillV, reps, ofDs, hw]
  refine (h2.push _).app (a := 5) (by omega) (by rw [updF_ne (by omega)]; exact f5) hv2 (by simp) rfl (by omega) (by omega) ?_
  intro s3 W1 j5 h3 g3 n3
  have hrow3 := h3.row
  have hset3 : ∀ cs, s3.setBlk p (.row cs) = some (s3.put p cs) := fun cs => setBlk_put h3.fl
  obtain ⟨h4, g4⟩ := h3.put (R' := [t, bad, F, H, K1, W1]) rfl
  have hw1 := h3.one (a := 5) (updF_eq)
  simp [hrow3, hset3, lay, hw1, FinW]
  have L1 := g1.len
  have L2 := g2.len
  simp only [push_len] at L1
  refine hQ _ K1 W1 j4 j5 h4 ?_
  refine (Gr.push _).trans ((g1.mono (fun r _ e => .inr (.inl e)) fun _ _ => trivial).trans ((g2.mono (fun r _ e => .inl e) fun _ _ => trivial).trans ((Gr.push _).trans ((g3.mono (fun r hr e => ?_) fun _ _ => trivial).trans (g4.mono (fun r _ e => .inl e) fun _ _ => trivial)))))
  rw [upd_ne (by omega)] at e
  exact .inr (.inr e)
end
end Go.Sh
