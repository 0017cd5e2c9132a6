/- The law CodeForth on shadow runs. -/
import Derived.Test.YtbjckcenlfgcaabDoorShLcodeE
set_option linter.unusedVariables false
set_option linter.unusedSimpArgs false
namespace Go.Sh
theorem and_16 (x : Int) : ∃ n : Nat, n ≤ 65535 ∧ bitI .and .i64 x 65535 = some (.i .i64 n) := by
  rw [bit_and]
  have e : BitVec.ofInt (IntKind.bits .i64) 65535 = BitVec.ofNat 64 65535 := ofInt_nat 64 65535
  have h : (BitVec.ofInt (IntKind.bits .i64) x &&& BitVec.ofInt (IntKind.bits .i64) 65535).toNat ≤ 65535 := by
    rw [BitVec.toNat_and, e]
    exact Nat.and_le_right
  refine ⟨_, h, ?_⟩
  rw [wrap_i64 (by omega) (by omega)]
theorem tmod_nat (a b : Nat) : ((a : Int).tmod (b : Int)) = ((a % b : Nat) : Int) := by
  rw [Int.tmod_eq_emod_of_nonneg (by omega)]
  simp
theorem slotsOf_ge (a : List Ins) : a.length ≤ slotsOf a := by
  induction a with
  | nil => simp
  | cons x r ih =>
    simp only [slotsOf, List.length_cons]
    split <;> omega
section
variable {pr : Prog} (hI : IsaOk pr) (hp : Sub codeFns pr) (hq : Sub law3Fns pr) {st : St}
include hI hp hq
theorem law_CodeForth (nz : Bool) (b : List UInt8) (cut : Int) (hl : b.length ≤ 1048576) : den pr 74 [bsl nz b, .d (.i .i64 cut)] st = some (.d (.b true), st) := by
  refine den_shut (hq.at 7 rfl) rfl rfl (by simp; rfl) ?_
  have haw := fun st => den_awake3 hI hp hq (st := st)
  have hnum := fun x st => den_num3 (pr := pr) hq (st := st) x
  have hcp := fun (z : Bool) (l : List UInt8) (h : l.length ≤ 140737488355328) st => den_copyB hq (st := st) (nz := z) h
  have hde : ∀ (l : List UInt8), l.length ≤ 1048576 → ∀ st, den pr 72 [bsl true l] st = some (decOut (dcA [] 0 l), st) := fun l h st => den_Decode hI hp (st := st) (bsl_c true l) (by omega) (by
    have := dcCnt_le l
    omega)
  have hc0 := hcp nz b (by omega)
  have hd0 := hde b hl
  rcases dc_forth b.length [] 0 b (Nat.le_refl _) with ⟨js, h1, h2, h3, h4⟩ | ⟨js, m, h1, h2, h3, h4, h5, h6⟩
  · have hdo : decOut (js, 0, 0) = .tup [dsl Ins.cells (decide (0 < js.length)) js, .d (.i .i64 0), .d (.i .i64 0)] := rfl
    rw [h1, List.nil_append, hdo] at hd0
    have hjl : js.length ≤ 1048576 := by
      have := iencs_len js
      have h7 := slotsOf_ge js
      rw [h2] at this
      omega
    have hen := fun st => den_Encode hI hp (st := st) (dsl_c insC (decide (0 < js.length)) js) (by omega)
    have heo : encOut js = .tup [bsl true b, .d (.i .i64 0), .d (.i .i64 0)] := by
      unfold encOut
      rw [firstBad_none.2 h3, h2]
    rw [heo] at hen
    have hsame := fun st => den_sameB hq (st := st) (nz := true) (nz' := nz) (L := b) (L' := b)
    simp at hsame
    simp [F74_spindlelaw3_CodeForth, haw, hc0, hd0, hnum, hen, hsame]
  · rw [Nat.zero_add] at h6
    have he := firstOf_err m h5
    have hcut := @firstOf_cut m h5
    obtain ⟨E, hE⟩ : ∃ E, E = (firstOf m).2.2 := ⟨_, rfl⟩
    rw [← hE] at he h6
    have hdo : ∀ k e : Int, decOut ([], k, e) = .tup [.d (.sl 0 false []), .d (.i .i64 k), .d (.i .i64 e)] := fun _ _ => rfl
    rw [h6, hdo] at hd0
    obtain ⟨K, hK⟩ : ∃ K, K = slotsOf js := ⟨_, rfl⟩
    have hjl := iencs_len js
    rw [← hK] at hd0 hjl
    have hml : 0 < m.length := List.length_pos_iff.2 h2
    have hbl : b.length = 8 * K + m.length := by rw [h1, List.length_append, hjl]
    have w1 : IntKind.wrap .i64 (8 * (K : Int)) = 8 * K := wrap_i64 (by omega) (by omega)
    have hs1 := bsl_slc nz b (lo := none) (hi := some (.d (.i .i64 (8 * (K : Int))))) (a := 0) (b := 8 * K) (by simp [Bd]) rfl (by omega) (by omega)
    rw [List.drop_zero, h1, List.take_left' hjl, ← h1] at hs1
    have hc1 := hcp nz (iencs js) (by omega)
    have hd1 := hde (iencs js) (by omega)
    rw [(dc_back h3 h4).1] at hd1
    have hdo1 : decOut (js, 0, 0) = .tup [dsl Ins.cells (decide (0 < js.length)) js, .d (.i .i64 0), .d (.i .i64 0)] := rfl
    rw [hdo1] at hd1
    obtain ⟨n, hn, hand⟩ := and_16 cut
    obtain ⟨r, hr⟩ : ∃ r : Nat, r = n % (m.length + 1) := ⟨_, rfl⟩
    have hrl : r ≤ m.length := by
      have := Nat.mod_lt n (show 0 < m.length + 1 by omega)
      omega
    have w2 : IntKind.wrap .i64 (8 * (K : Int) + 1) = 8 * K + 1 := wrap_i64 (by omega) (by omega)
    have w3 : IntKind.wrap .i64 ((b.length : Int) - 8 * K) = m.length := by rw [wrap_i64 (by omega) (by omega)]; omega
    have w4 : IntKind.wrap .i64 ((m.length : Int) + 1) = ((m.length + 1 : Nat) : Int) := by rw [wrap_i64 (by omega) (by omega)]; omega
    have w5 : IntKind.wrap .i64 (8 * (K : Int) + 1 + r) = ((8 * K + (r + 1) : Nat) : Int) := by rw [wrap_i64 (by omega) (by omega)]; omega
    have tm : (n : Int).tmod ((m.length + 1 : Nat) : Int) = r := by rw [tmod_nat, hr]
    obtain ⟨M1, hM1⟩ : ∃ M1 : Int, M1 = ((m.length + 1 : Nat) : Int) := ⟨_, rfl⟩
    rw [← hM1] at w4 tm
    have hM1' : ¬ M1 = 0 := by omega
    have g1 : ¬ (b.length : Int) < 8 * K := by omega
    have g2 : ¬ E < 30 := by omega
    have g3 : ¬ 32 < E := by omega
    have g4 : ¬ E = 0 := by omega
    have g5 : ¬ (K : Int) < 0 := by omega
    by_cases hend : b.length < 8 * K + (r + 1)
    · obtain ⟨X, hX⟩ : ∃ X : Int, X = ((8 * K + (r + 1) : Nat) : Int) := ⟨_, rfl⟩
      rw [← hX] at w5
      have hend' : (b.length : Int) < X := by omega
      simp [F74_spindlelaw3_CodeForth, haw, hc0, hd0, hnum, w1, g1, g2, g3, g4, g5, hs1, hc1, hd1, w2, hand, w3, w4, arI, hM1', tm, w5, hend']
    · have hs2 := bsl_slc nz b (lo := none) (hi := some (.d (.i .i64 ((8 * K + (r + 1) : Nat) : Int)))) (a := 0) (b := 8 * K + (r + 1)) (by simp [Bd]) rfl (by omega) (by omega)
      have htk : b.take (8 * K + (r + 1)) = iencs js ++ m.take (r + 1) := by rw [h1, List.take_append, List.take_of_length_le (by omega), hjl, Nat.add_sub_cancel_left]
      have hne : m.take (r + 1) ≠ [] := by
        intro h
        have := congrArg List.length h
        rw [List.length_take, List.length_nil] at this
        omega
      have hst := dc_stop h3 h4 hne (hcut (r + 1))
      have hl2 : (iencs js ++ m.take (r + 1)).length ≤ 1048576 := by rw [← htk]; simp; omega
      rw [List.drop_zero, htk] at hs2
      have hc2 := hcp nz (iencs js ++ m.take (r + 1)) (by omega)
      have hd2 := hde (iencs js ++ m.take (r + 1)) hl2
      rw [hst, hdo, ← hK] at hd2
      have hce := hcut (r + 1)
      generalize (firstOf (m.take (r + 1))).2.2 = E2 at *
      generalize iencs js ++ m.take (r + 1) = L2 at *
      obtain ⟨X, hX⟩ : ∃ X : Int, X = ((8 * K + (r + 1) : Nat) : Int) := ⟨_, rfl⟩
      rw [← hX] at w5 hs2
      have hend' : ¬ (b.length : Int) < X := by omega
      simp [F74_spindlelaw3_CodeForth, haw, hc0, hd0, hnum, w1, g1, g2, g3, g4, g5, hs1, hc1, hd1, w2, hand, w3, w4, arI, hM1', tm, w5, hend', hs2, hc2, hd2, hce]
end
end Go.Sh
