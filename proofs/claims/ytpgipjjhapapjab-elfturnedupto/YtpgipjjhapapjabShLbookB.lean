/- Books: lists of marks, copies. -/
import Derived.Test.YtpgipjjhapapjabShLbook
set_option linter.unusedVariables false
set_option linter.unusedSimpArgs false
namespace Go.Sh
/-- A mark's byte. -/
def markV (mark : Int) (i : Nat) : Int := IntKind.wrap .u8 (IntKind.wrap .i64 (IntKind.wrap .i64 (mark + IntKind.wrap .i64 (7 * (i : Int))) + 1))
def markB (mark : Int) (i : Nat) : UInt8 := UInt8.ofNat (markV mark i).toNat
theorem markB_toNat (mark : Int) (i : Nat) : ((markB mark i).toNat : Int) = markV mark i := by
  have h : 0 ≤ markV mark i ∧ markV mark i < 256 := by
    unfold markV
    generalize IntKind.wrap .i64 (IntKind.wrap .i64 (mark + IntKind.wrap .i64 (7 * (i : Int))) + 1) = x
    simp only [IntKind.wrap, IntKind.bits, IntKind.signed]
    constructor
    · exact Int.emod_nonneg _ (by decide)
    · exact Int.emod_lt_of_pos _ (by decide)
  unfold markB
  rw [UInt8.toNat_ofNat']
  omega
def markL (mark : Int) (k : Nat) : List UInt8 := (List.range k).map (markB mark)
theorem markL_len (mark : Int) (k : Nat) : (markL mark k).length = k := by simp [markL]
/-- So many marks, and zeros behind them. -/
def mrowB (mark : Int) (k i : Nat) : List V := ofDs (byteCells (markL mark i)) ++ List.replicate (k - i) (.d (.i .u8 0))
theorem mrowB_len (mark : Int) {k i : Nat} (h : i ≤ k) : (mrowB mark k i).length = k := by
  simp [mrowB, ofDs, byteCells, markL_len]
  omega
theorem mrowB_set (mark : Int) {k i : Nat} (h : i < k) : lay (mrowB mark k i) i [.d (.i .u8 (markV mark i))] = mrowB mark k (i + 1) := by
  have hl : (ofDs (byteCells (markL mark i))).length = i := by simp [ofDs, byteCells, markL_len]
  unfold lay mrowB
  rw [List.take_left' hl, List.drop_append, List.drop_of_length_le (by simp; omega), hl]
  have : k - i = (k - (i + 1)) + 1 := by omega
  rw [this, List.replicate_succ]
  have hm : markL mark (i + 1) = markL mark i ++ [markB mark i] := by simp [markL, List.range_succ]
  rw [hm, ← markB_toNat]
  simp [ofDs, byteCells]
theorem mrowB_zero (mark : Int) (k : Nat) : ofDs (reps k [D.i .u8 0]) = mrowB mark k 0 := by simp [mrowB, markL, byteCells, ofDs, reps]
theorem mrowB_all (mark : Int) (k : Nat) : mrowB mark k k = ofDs (byteCells (markL mark k)) := by simp [mrowB]
section
variable {pr : Prog} (hp : Sub bookFns pr) {st : St}
include hp
theorem den_marked (k : Nat) (mark : Int) (hk : k ≤ 1099511627776) : den pr 131 [.d (.i .i64 k), .d (.i .i64 mark)] st = some (bsl true (markL mark k), st) := by
  refine den_shut (hp.at 6 rfl) rfl rfl (by simp; rfl) ?_
  have hr : room 1 (.d (.i .i64 (k : Int))) = some k := by
    simp [room]
    omega
  simp [F131_spindlelaw0_marked, hr]
  rw [mrowB_zero mark]
  generalize hL : cden pr (.loop _ _ _) _ _ = o
  obtain ⟨r, rfl, hQ⟩ : ∃ r, o = some r ∧ ∃ e, r = (.exit 0, e, s0 [.row (mrowB mark k k)] [] 0 0) ∧ e.get 5 = some (.rsl 1 0 0 k k) := by
    rw [← hL]
    refine loop_n k (fun i => [(0, .d (.i .i64 k)), (1, .d (.i .i64 mark)), (5, .rsl 1 0 0 k k), (6, .d (.i .i64 i))]) (fun i => s0 [.row (mrowB mark k i)] [] 0 0) ?_ (by simp) rfl
    intro i hi
    rcases Nat.lt_or_ge i k with h | h
    · have h1 : IntKind.wrap .i64 ((i : Int) + 1) = i + 1 := wrap_i64 (by omega) (by omega)
      have hia := iaddr_row (size := 1) (sz := 1) (id := 0) (off := 0) (cap := k) (k := .i64) h
      simp at hia
      have hset := mrowB_set mark h
      have hlen := mrowB_len mark hi
      unfold markV at hset
      have hik : i + 1 ≤ k := h
      simp [F131_spindlelaw0_marked_b0, h, h1, hia, hlen, hset, hik]
    · have : i = k := by omega
      simp [F131_spindlelaw0_marked_b0, this]
  obtain ⟨e, rfl, h5⟩ := hQ
  have hl : (ofDs (byteCells (markL mark k))).length = k := by simp [ofDs, byteCells, markL_len]
  have htk : (ofDs (byteCells (markL mark k))).take k = ofDs (byteCells (markL mark k)) := List.take_of_length_le (by omega)
  simp [h5, mrowB_all, cellsAt, hl, htk, toDs_of, bsl, markL_len]
/-- The same, in a row. -/
theorem den_markedR (hfl : st.floor = 0) (k : Nat) (mark : Int) (hk : k ≤ 1099511627776) : den pr 133 [.d (.i .i64 k), .d (.i .i64 mark)] st = some (.rsl 1 st.heap.length 0 k k, st.push (.row (ofDs (byteCells (markL mark k))))) := by
  rw [den_fn (hp.at 7 rfl) rfl rfl, start_raw _ rfl]
  have hr : room 1 (.d (.i .i64 (k : Int))) = some k := by
    simp [room]
    omega
  simp [F133_spindlelaw0_marked_own, hr]
  rw [mrowB_zero mark]
  generalize hL : cden pr (.loop _ _ _) _ _ = o
  obtain ⟨r, rfl, hQ⟩ : ∃ r, o = some r ∧ ∃ e, r = (.exit 0, e, st.push (.row (mrowB mark k k))) ∧ e.get 5 = some (.rsl 1 st.heap.length 0 k k) := by
    rw [← hL]
    refine loop_n k (fun i => [(0, .d (.i .i64 k)), (1, .d (.i .i64 mark)), (5, .rsl 1 st.heap.length 0 k k), (6, .d (.i .i64 i))]) (fun i => st.push (.row (mrowB mark k i))) ?_ (by simp) rfl
    intro i hi
    rcases Nat.lt_or_ge i k with h | h
    · have h1 : IntKind.wrap .i64 ((i : Int) + 1) = i + 1 := wrap_i64 (by omega) (by omega)
      have hia := iaddr_row (size := 1) (sz := 1) (id := st.heap.length) (off := 0) (cap := k) (k := .i64) h
      simp at hia
      have hset := mrowB_set mark h
      have hlen := mrowB_len mark hi
      unfold markV at hset
      have hik : i + 1 ≤ k := h
      simp [F133_spindlelaw0_marked_own_b0, h, h1, hia, hlen, hset, hfl, hik]
    · have : i = k := by omega
      simp [F133_spindlelaw0_marked_own_b0, this]
  obtain ⟨e, rfl, h5⟩ := hQ
  simp [h5, mrowB_all]
omit hp in
theorem raw_copyBytes {nz : Bool} {L : List UInt8} (hl : L.length ≤ 140737488355328) : RawD pr F35_spindlelaw0_CopyBytes [bsl nz L] fun v s => v = .own 1 L.length true (byteCells L) 0 ∧ s.tips[0]? = some L.length := by
  refine .of ?_
  simp [F35_spindlelaw0_CopyBytes, fillV, reps, ofDs, appV, byteCells_len, hl]
/-- A copy, of bytes that may lie in a row. -/
theorem callW_copyBytes {v : V} {m : Nat} {nz : Bool} {L : List UInt8} (hc : seeA st m [v] = some [bsl nz L]) (hl : L.length ≤ 140737488355328) : CallW pr 35 [v] st fun r s => r = bsl true L ∧ s = st := by
  refine .seen hc (((raw_copyBytes hl).callW (hp.at 8 rfl) rfl).mono ?_)
  rintro v s ⟨rfl, ht⟩
  have hcl : (byteCells L).length = L.length := byteCells_len L
  have hfl := bytes_flat L
  simp only [FreshR, FreshV, ht, hfl, hcl, true_and, Nat.mul_one]
  exact .inl ⟨rfl, rfl⟩
omit hp in
/-- Bytes, seen as data. -/
theorem Byt.see {v : V} {L : List UInt8} (h : Byt st v L) (k : Nat) : ∃ nz, seeA st (k + 1) [v] = some [bsl nz L] := by
  cases v with
  | d d =>
    cases d with
    | sl n nz cs => obtain ⟨rfl, rfl⟩ := h; exact ⟨nz, rfl⟩
    | _ => exact h.elim
  | own sz n nz cs t => obtain ⟨rfl, rfl⟩ := h; exact ⟨nz, rfl⟩
  | rsl sz id off n cap =>
    obtain ⟨rfl, rfl, rfl, c, h4, h5, h6⟩ := h
    refine ⟨true, seeA_one ?_⟩
    simp only [see1, seeD, h4, Nat.zero_add, Nat.mul_one, h5, if_true, List.drop_zero, h6, seeL_ofDs, Option.map_some, bsl]
  | _ => exact h.elim
end
end Go.Sh
