/- Instructions that are lent in memory. -/
import Derived.Test.YtbjckcenlfgcaabDoorShLcodeJ
set_option linter.unusedVariables false
set_option linter.unusedSimpArgs false
namespace Go.Sh
def lendFns : List (Nat × SFn) := [(6, F6_spindlelaw3_behind), (1, F1_spindlelaw3_Lend), (2, F2_spindlelaw3_Turned), (4, F4_spindlelaw3_Back)]
def behindI (k : Nat) : List D := [.i .i64 149, .i .i64 (IntKind.wrap .i64 (-7 - k)), .i .i64 0, .i .i64 0, .i .i64 k]
def bI (n : Nat) : List V := ofDs ((List.range n).flatMap behindI)
theorem bI_len : ∀ n, (bI n).length = 5 * n
  | 0 => rfl
  | n + 1 => by
    have ih := bI_len n
    simp only [bI, ofDs, List.length_map, List.range_succ, List.flatMap_append, List.length_append, List.flatMap_cons, List.flatMap_nil, List.append_nil] at ih ⊢
    simp only [behindI, List.length_cons, List.length_nil]
    omega
theorem bI_succ (n : Nat) : bI (n + 1) = bI n ++ ofDs (behindI n) := by simp [bI, ofDs, List.range_succ]
theorem lay_mid5 {α : Type} {a b c d : List α} {o : Nat} (ho : a.length = o) (h : b.length = d.length) : lay (a ++ (b ++ c)) o d = a ++ (d ++ c) := by
  subst ho
  unfold lay
  rw [List.take_left' rfl, ← List.append_assoc a b c, List.drop_left' (by simp [h]), List.append_assoc]
/-- Instructions in a row, with others behind them. -/
def LentC (s : St) (i : Nat) (is : List Ins) : Prop := s.row i = some (ofDs (is.map Ins.cells).flatten ++ (bI (2 * is.length + 70)).drop (is.length * 5))
theorem cells5 (is : List Ins) : (ofDs (is.map Ins.cells).flatten).length = is.length * 5 := by
  rw [ofDs, List.length_map, flatten_len (sz := 5) (fun y hy => by simp only [List.mem_map] at hy; obtain ⟨z, _, rfl⟩ := hy; rfl), List.length_map]
theorem slc_first (i : Nat) {n c m : Nat} (hm : n ≤ m) : slcV 5 (.rsl 5 i 0 c m) none (some (.d (.i .i64 n))) none = some (.rsl 5 i 0 n m) := by
  have b2 : bnd (some (.d (.i .i64 (n : Int)))) c m = some n := by
    show (if 0 ≤ (n : Int) ∧ (n : Int) ≤ m then some (n : Int).toNat else none) = _
    rw [if_pos (by omega), Int.toNat_natCast]
  have b3 : bnds c m none (some (.d (.i .i64 n))) none = some (0, n, m) := by
    have b1 : bnd none m m = some m := rfl
    unfold bnds
    rw [b1]
    simp only
    rw [b2]
    rfl
  simp only [slcV, if_true, b3, Option.map_some, Nat.zero_mul, Nat.add_zero, Nat.sub_zero]
/-- The first of them are written over. -/
theorem cpy_first {st : St} {i c m : Nat} {R : List V} {u : V} {is : List Ins} (hf : st.floor = 0) (hr : st.row i = some R) (hR : c * 5 ≤ R.length) (hu : SlD 5 u (is.map Ins.cells)) (hn : is.length ≤ c) : cpyV 5 st (.rsl 5 i 0 c m) u = some (.d (.i .i64 is.length), st.put i (ofDs (is.map Ins.cells).flatten ++ R.drop (is.length * 5))) := by
  have hv : vw 5 st u = some (is.length, (is.map Ins.cells).flatten) := by
    have := hu.vw (st := st)
    rwa [List.length_map] at this
  have hl := cells5 is
  rw [ofDs, List.length_map] at hl
  have hmin : min is.length c = is.length := Nat.min_eq_left hn
  have htk : ((is.map Ins.cells).flatten).take (is.length * 5) = (is.map Ins.cells).flatten := List.take_of_length_le (by omega)
  have hlay : lay R 0 (ofDs (is.map Ins.cells).flatten) = ofDs (is.map Ins.cells).flatten ++ R.drop (is.length * 5) := by
    unfold lay
    rw [List.take_zero, List.nil_append, Nat.zero_add, cells5]
  simp [cpyV, hr, hv, hmin, htk, hlay, hl, hR, setBlk_put hf]
section
variable {pr : Prog} (hp : Sub lendFns pr) {st : St}
include hp
theorem den_behindI (k : Nat) : den pr 6 [.d (.i .i64 k)] st = some (.agg (ofDs (behindI k)), st) := by
  refine den_shut (hp.at 0 rfl) rfl rfl (by simp; rfl) ?_
  simp [F6_spindlelaw3_behind, behindI, ofDs, fillV, lay]
theorem den_LendI {u : V} {is : List Ins} (hf : st.floor = 0) (hu : SlD 5 u (is.map Ins.cells)) (hn : is.length ≤ 100000000000) :
    ∃ s', den pr 1 [u] st = some (.rsl 5 st.heap.length 0 is.length (2 * is.length + 70), s') ∧ LentC s' st.heap.length is ∧ Gr st s' (fun _ => False) (fun _ => True) := by
  have hlen := hu.len
  rw [List.length_map] at hlen
  have w1 : IntKind.wrap .i64 (2 * (is.length : Int)) = 2 * (is.length : Int) := wrap_i64 (by omega) (by omega)
  have w2 : IntKind.wrap .i64 (2 * (is.length : Int) + 70) = 2 * (is.length : Int) + 70 := wrap_i64 (by omega) (by omega)
  obtain ⟨N, hN⟩ : ∃ N, N = 2 * is.length + 70 := ⟨_, rfl⟩
  have hNi : 2 * (is.length : Int) + 70 = (N : Int) := by omega
  rw [hNi] at w2
  have hr : room 40 (.d (.i .i64 (N : Int))) = some N := by
    simp [room]
    omega
  obtain ⟨Z, hZ⟩ : ∃ Z : List V, Z = ofDs (reps N [.i .i64 0, .i .i64 0, .i .i64 0, .i .i64 0, .i .i64 0]) := ⟨_, rfl⟩
  have hZl : Z.length = 5 * N := by rw [hZ, ofDs, List.length_map, reps_len]; simp; omega
  obtain ⟨s1, hs1⟩ : ∃ s1, s1 = st.push (.row Z) := ⟨_, rfl⟩
  obtain ⟨i, hi⟩ : ∃ i, i = st.heap.length := ⟨_, rfl⟩
  have hi1 : s1.row i = some Z := by rw [hs1, hi]; exact row_push_new rfl
  have hil := row_lt hi1
  have hf1 : s1.floor = 0 := by rw [hs1]; exact hf
  have hset : ∀ cs ds, (s1.put i cs).setBlk i (.row ds) = some (s1.put i ds) := fun cs ds => by rw [setBlk_put (by rw [put_floor]; exact hf1), put_put]
  have hrow : ∀ cs, (s1.put i cs).row i = some cs := fun cs => row_put_eq hil
  have hb := fun k st => den_behindI hp (st := st) k
  rw [den_fn (hp.at 1 rfl) rfl rfl, start_raw _ rfl]
  simp [F1_spindlelaw3_Lend, hlen, w1, hNi, w2, hr, ← hZ, ← hs1, ← hi]
  generalize hL : cden pr (.loop _ _ _) _ _ = o
  obtain ⟨r, rfl, hQ⟩ : ∃ r, o = some r ∧ ∃ e', r = (.exit 0, e', s1.put i (bI N)) ∧ e'.get 0 = some u ∧ e'.get 3 = some (.rsl 5 i 0 N N) := by
    rw [← hL]
    refine loop_n N (fun k => [(0, u), (3, .rsl 5 i 0 N N), (4, .d (.i .i64 k))]) (fun k => s1.put i (bI k ++ Z.drop (5 * k))) ?_ (by simp) (by simp [bI, ofDs, put_self hi1])
    intro k hk
    rcases Nat.lt_or_ge k N with h | h
    · have h1 : IntKind.wrap .i64 ((k : Int) + 1) = k + 1 := wrap_i64 (by omega) (by omega)
      have hia := iaddr_row (size := 5) (sz := 5) (id := i) (off := 0) (cap := N) (n := N) (k := .i64) (i := k) h
      simp at hia
      have hdl : ((Z.drop (5 * k)).take 5).length = 5 := by rw [List.length_take, List.length_drop]; omega
      have hsplit : Z.drop (5 * k) = (Z.drop (5 * k)).take 5 ++ Z.drop (5 * (k + 1)) := by
        rw [show 5 * (k + 1) = 5 * k + 5 by omega, ← List.drop_drop, List.take_append_drop]
      have hl1 : (bI k).length = k * 5 := by rw [bI_len]; omega
      have e1 : lay (bI k ++ Z.drop (5 * k)) (k * 5) (ofDs (behindI k)) = bI (k + 1) ++ Z.drop (5 * (k + 1)) := by
        rw [hsplit, lay_mid5 hl1 (by rw [hdl]; rfl), bI_succ, List.append_assoc]
      have hfit : k * 5 + 5 ≤ (bI k ++ Z.drop (5 * k)).length := by rw [List.length_append, hl1, List.length_drop]; omega
      have hbl : (ofDs (behindI k)).length = 5 := rfl
      generalize bI k ++ Z.drop (5 * k) = R at *
      simp [F1_spindlelaw3_Lend_b0, h, hrow, hset, hb, hia, hfit, e1, h1, hbl]
      try omega
    · obtain rfl : k = N := by omega
      have : Z.drop (5 * k) = [] := List.drop_of_length_le (by omega)
      simp [F1_spindlelaw3_Lend_b0, this]
  obtain ⟨e', rfl, g0, g3⟩ := hQ
  have hcpy := cpy_first (st := s1.put i (bI N)) (i := i) (c := N) (m := N) (R := bI N) (by rw [put_floor]; exact hf1) (hrow _) (by rw [bI_len]; omega) hu (by omega)
  rw [put_put] at hcpy
  have hslc := slc_first i (n := is.length) (c := N) (m := N) (by omega)
  simp [g0, g3, hcpy, hlen, hslc]
  refine ⟨_, ⟨hN, rfl⟩, ?_, ?_⟩
  · rw [LentC, ← hN]
    exact hrow _
  · rw [hs1]
    refine ((Gr.push (A := fun r => st.heap.length ≤ r) (P := fun _ => True) _).trans (.put (hs1 ▸ hi1) ?_ (by omega) fun _ _ _ => .inr trivial)).mono (fun r hr e => absurd e (by omega)) fun _ _ => trivial
    rw [List.length_append, cells5, List.length_drop, bI_len, hZl]
    omega
end
end Go.Sh
