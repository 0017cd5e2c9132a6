/- Instructions that were lent come back. -/
import Derived.Test.YtbjckcenlfgcaabDoorShLcodeL
set_option linter.unusedVariables false
set_option linter.unusedSimpArgs false
namespace Go.Sh
theorem bI_get : ∀ {n k : Nat} (t : List V), k < n → ((bI n ++ t).drop (k * 5)).take 5 = ofDs (behindI k)
  | 0, k, t, h => by omega
  | n + 1, k, t, h => by
    rw [bI_succ, List.append_assoc]
    rcases Nat.lt_or_ge k n with hk | hk
    · exact bI_get _ hk
    · obtain rfl : k = n := by omega
      rw [List.drop_left' (by rw [bI_len]; omega)]
      rfl
theorem five_eq {x : List D} (h : ∃ a b c d e : Int, x = [.i .i64 a, .i .i64 b, .i .i64 c, .i .i64 d, .i .i64 e]) : eqV [9, 0, 0, 0, 0, 0] (.agg (ofDs x)) (.agg (ofDs x)) = some true := by
  obtain ⟨a, b, c, d, e, rfl⟩ := h
  simp only [eqV, toDs_ofDs', List.length_cons, List.length_nil, eqDs, eqK]
  simp
theorem LentC.see {s : St} {i : Nat} {is : List Ins} (h : LentC s i is) (cap k : Nat) : see1 s (k + 1) (.rsl 5 i 0 is.length cap) = some (dsl Ins.cells true is) := by
  have h1 : is.length * 5 ≤ (ofDs (is.map Ins.cells).flatten ++ (bI (2 * is.length + 70)).drop (is.length * 5)).length := by rw [List.length_append, cells5]; omega
  simp only [LentC] at h
  simp only [see1, seeD, h, Nat.zero_add, h1, if_true, List.drop_zero]
  rw [List.take_left' (cells5 is), seeL_ofDs]
  rfl
section
variable {pr : Prog} (hp : Sub lendFns pr) (hq : Sub law3Fns pr) {st : St}
include hp hq
theorem callW_BackI {i : Nat} {u : V} {nz : Bool} {is : List Ins} (h : LentC st i is) (hu : u = dsl Ins.cells nz is) (hn : is.length ≤ 100000000000) : CallW pr 4 [.rsl 5 i 0 is.length (2 * is.length + 70), u] st fun v s => s = st ∧ v = .d (.b true) := by
  have hd := dsl_d insC nz is
  rw [← hu] at hd
  have hlen := hd.len
  rw [List.length_map] at hlen
  obtain ⟨N, hN⟩ : ∃ N, N = 2 * is.length + 70 := ⟨_, rfl⟩
  have hNi : 2 * (is.length : Int) + 70 = (N : Int) := by omega
  have w1 : IntKind.wrap .i64 (2 * (is.length : Int)) = 2 * (is.length : Int) := wrap_i64 (by omega) (by omega)
  have w2 : IntKind.wrap .i64 (N : Int) = N := wrap_i64 (by omega) (by omega)
  have hslc := slc_first i (n := N) (c := is.length) (m := N) (Nat.le_refl _)
  have hsame : CallW pr 9 [.rsl 5 i 0 is.length N, u] st fun v s => s = st ∧ v = .d (.b true) := by
    have hden := den_sameIns hq (st := st0) (dsl_d insC true is).c (dsl_d insC nz is).c (by omega)
    refine .seen (k := 1) (as := [dsl Ins.cells true is, dsl Ins.cells nz is]) (seeA_two (h.see N 0) (show see1 st 1 u = some (dsl Ins.cells nz is) by rw [hu]; rfl)) ((CallW.of_den hden ?_))
    simp [FreshR, FreshV, D.flat, pushO, V.flat]
  refine .run (fun f => f == 9) (hp.at 3 rfl) rfl ?_
  rw [start_raw _ rfl]
  refine codeC_of ?_
  rw [← hN]
  have hloop : ∃ e', cden pr (.loop [0, 1, 5, 6] false F4_spindlelaw3_Back_b0) [(0, .rsl 5 i 0 is.length N), (1, u), (5, .rsl 5 i 0 N N), (6, .d (.i .i64 is.length))] st = some (.exit 0, e', st) ∧ e'.get 0 = some (.rsl 5 i 0 is.length N) ∧ e'.get 1 = some u := by
    have hb := fun k st => den_behindI hp (st := st) k
    have hC : ∀ k, is.length ≤ k → k < N → ((ofDs (is.map Ins.cells).flatten ++ (bI N).drop (is.length * 5)).drop (k * 5)).take 5 = ofDs (behindI k) := by
      intro k h1 h2
      rw [List.drop_append, List.drop_of_length_le (by rw [cells5]; omega), List.nil_append, cells5, List.drop_drop, show is.length * 5 + (k * 5 - is.length * 5) = k * 5 by omega]
      have := bI_get [] h2
      rwa [List.append_nil] at this
    have hrow : st.row i = some (ofDs (is.map Ins.cells).flatten ++ (bI N).drop (is.length * 5)) := by rw [hN]; exact h
    have hRl : (ofDs (is.map Ins.cells).flatten ++ (bI N).drop (is.length * 5)).length = 5 * N := by rw [List.length_append, cells5, List.length_drop, bI_len]; omega
    generalize ofDs (is.map Ins.cells).flatten ++ (bI N).drop (is.length * 5) = R at *
    generalize hL : cden pr (.loop _ _ _) _ _ = o
    obtain ⟨r, rfl, hQ⟩ : ∃ r, o = some r ∧ ∃ e', r = (.exit 0, e', st) ∧ e'.get 0 = some (.rsl 5 i 0 is.length N) ∧ e'.get 1 = some u := by
      rw [← hL]
      refine loop_n (N - is.length) (fun k => [(0, .rsl 5 i 0 is.length N), (1, u), (5, .rsl 5 i 0 N N), (6, .d (.i .i64 ((is.length + k : Nat) : Int)))]) (fun _ => st) ?_ (by simp) rfl
      intro k hk
      rcases Nat.lt_or_ge k (N - is.length) with hlt | hge
      · obtain ⟨m, hm⟩ : ∃ m, m = is.length + k := ⟨_, rfl⟩
        have hmN : m < N := by omega
        have h1 : IntKind.wrap .i64 ((m : Int) + 1) = m + 1 := wrap_i64 (by omega) (by omega)
        have hia := iaddr_row (size := 5) (sz := 5) (id := i) (off := 0) (cap := N) (n := N) (k := .i64) (i := m) hmN
        simp at hia
        have hg := hC m (by omega) hmN
        have hfit : m * 5 + 5 ≤ R.length := by omega
        have heq := five_eq (x := behindI m) ⟨_, _, _, _, _, rfl⟩
        have hm1 : is.length + (k + 1) = m + 1 := by omega
        simp only [← hm]
        simp [F4_spindlelaw3_Back_b0, hmN, hrow, hia, hfit, hg, hb, heq, h1, hm1]
        omega
      · have hkN : is.length + k = N := by omega
        simp [F4_spindlelaw3_Back_b0, hkN]
    obtain ⟨e', rfl, g0, g1⟩ := hQ
    exact ⟨e', rfl, g0, g1⟩
  obtain ⟨e', hl, g0, g1⟩ := hloop
  simp [F4_spindlelaw3_Back, hlen, w1, hNi, w2, hslc]
  refine CodeW.of_cden hl ?_
  simp [g0, g1]
  refine hsame.mono ?_
  rintro v s ⟨rfl, rfl⟩
  simp [FinW]
end
end Go.Sh
