/- What code.Decode comes to. -/
import Derived.Test.YtnemobbnlacmjaaDoorShLcodeB
set_option linter.unusedVariables false
set_option linter.unusedSimpArgs false
namespace Go.Sh
def slotW (l : List UInt8) : Nat := if bt l 0 = 24 then 2 else 1
theorem slotW_pos (l : List UInt8) : 1 ≤ slotW l := by
  unfold slotW
  split <;> omega
/-- The instructions of bytes from a slot on, behind those. -/
def dcA (acc : List Ins) (k : Nat) (l : List UInt8) : List Ins × Int × Int :=
  if h : l = [] then (acc, 0, 0)
  else if (firstOf l).2.2 ≠ 0 then ([], k, (firstOf l).2.2)
  else dcA (acc ++ [(firstOf l).1]) (k + slotW l) (l.drop (8 * slotW l))
termination_by l.length
decreasing_by
  have := slotW_pos l
  have : 0 < l.length := List.length_pos_iff.2 h
  simp
  omega
/-- How many instructions are read of bytes. -/
def dcCnt (l : List UInt8) : Nat :=
  if h : l = [] then 0
  else if (firstOf l).2.2 ≠ 0 then 0
  else 1 + dcCnt (l.drop (8 * slotW l))
termination_by l.length
decreasing_by
  have := slotW_pos l
  have : 0 < l.length := List.length_pos_iff.2 h
  simp
  omega
theorem firstOf_w {l : List UInt8} (h : (firstOf l).2.2 = 0) : (firstOf l).2.1 = slotW l ∧ 8 * slotW l ≤ l.length ∧ (firstOf l).1 = (if bt l 0 = 24 then wideAt l else insAt l) ∧ mayV (firstOf l).1 = 0 ∧ (bt l 0 = 24 → t4 l 8 = 0) := by
  unfold firstOf slotW at *
  split at h
  · simp at h
  · rename_i h8
    rw [if_neg h8]
    split at h
    · rename_i hb
      rw [if_pos hb]
      split at h
      · simp at h
      · rename_i h16
        rw [if_neg h16]
        split at h
        · simp at h
        · rename_i h0
          rw [if_neg h0]
          split at h
          · simp at h
          · rename_i hm
            rw [if_neg hm, if_pos hb, if_pos hb]
            exact ⟨rfl, by omega, rfl, Decidable.not_not.1 hm, fun _ => by omega⟩
    · rename_i hb
      rw [if_neg hb]
      split at h
      · simp at h
      · rename_i hm
        rw [if_neg hm, if_neg hb, if_neg hb]
        exact ⟨rfl, by omega, rfl, Decidable.not_not.1 hm, fun h => absurd h hb⟩
theorem dcCnt_le (l : List UInt8) : 8 * dcCnt l ≤ l.length := by
  induction h : l.length using Nat.strongRecOn generalizing l with
  | ind n ih =>
    rw [dcCnt]
    split
    · omega
    · rename_i hne
      split
      · omega
      · rename_i he
        have hw := firstOf_w (Decidable.not_not.1 he)
        have hp := slotW_pos l
        have := ih (l.drop (8 * slotW l)).length (by simp; omega) _ rfl
        simp only [List.length_drop] at this
        omega
def decOut (r : List Ins × Int × Int) : V := .tup [dsl Ins.cells (decide (0 < r.1.length)) r.1, .d (.i .i64 r.2.1), .d (.i .i64 r.2.2)]
section
variable {pr : Prog} (hI : IsaOk pr) (hp : Sub codeFns pr) {st : St}
include hI hp
theorem den_Decode {v : V} {l : List UInt8} (hv : SlC 1 v (l.map byC)) (hl : l.length ≤ 140737488355328) (hcn : dcCnt l * 40 ≤ 140737488355328) : den pr 72 [v] st = some (decOut (dcA [] 0 l), st) := by
  obtain ⟨u, hc, hu⟩ := hv.close
  refine den_shut (hp.at 2 rfl) rfl rfl (by simp [hc]; rfl) ?_
  have hlen := hu.len
  rw [List.length_map] at hlen
  have hes := fun st a b => hu.esc st a b
  simp [F72_code_Decode, hlen]
  generalize hL : cden pr (.loop _ _ _) _ _ = o
  obtain ⟨r, rfl, hQ⟩ : ∃ r, o = some r ∧ ((∃ acc e s, dcA [] 0 l = (acc, 0, 0) ∧ r = (.exit 0, e, s) ∧ e.get 5 = some (.own 5 acc.length (decide (0 < acc.length)) (acc.map Ins.cells).flatten 0)) ∨
      ∃ k p e s, dcA [] 0 l = ([], p, k) ∧ r = (.ret, e, s) ∧ e.get 2 = some (.d (.sl 0 false [])) ∧ e.get 3 = some (.d (.i .i64 p)) ∧ e.get 4 = some (.d (.i .i64 k))) := by
    rw [← hL]
    obtain ⟨J, hJ⟩ : ∃ J : Nat → Env → St → Prop, J = (fun n e st => ∃ (k : Nat) (acc : List Ins) (bs : List Blk), n = l.length - 8 * k ∧ 8 * k ≤ l.length ∧ acc.length + dcCnt (l.drop (8 * k)) = dcCnt l ∧ dcA acc k (l.drop (8 * k)) = dcA [] 0 l ∧ st = s0 bs [acc.length] 0 0 ∧
      e = [(0, u), (5, .own 5 acc.length (decide (0 < acc.length)) (acc.map Ins.cells).flatten 0), (6, .d (.i .i64 k))]) := ⟨_, rfl⟩
    refine loop_j J ?_ (n := l.length) ?_
    rotate_left
    · rw [hJ]
      exact ⟨0, [], [], by omega, by omega, by simp, rfl, rfl, by simp⟩
    intro n e st hj
    rw [hJ] at hj
    obtain ⟨k, acc, bs, rfl, hk, hacc, hdc, rfl, rfl⟩ := hj
    have a1 : IntKind.wrap .i64 (8 * (k : Int)) = 8 * k := wrap_i64 (by omega) (by omega)
    rcases Nat.lt_or_ge (8 * k) l.length with h | h
    rotate_left
    · have h' : ¬ 8 * (k : Int) < l.length := by omega
      rw [List.drop_of_length_le h, dcA, dif_pos rfl] at hdc
      simp [F72_code_Decode_b0, hlen, a1, h']
      exact ⟨acc, hdc.symm, rfl, Iff.rfl, rfl⟩
    have h' : 8 * (k : Int) < l.length := by omega
    obtain ⟨w, hw1, hw2⟩ := hu.slice (lo := some (.d (.i .i64 (8 * (k : Int))))) (hi := none) (a := 8 * k) (b := l.length) (by simp [Bd]) (by simp [Bd]) (by omega) (by simp)
    rw [← List.map_take, ← List.map_drop, List.take_length] at hw2
    have hf := fun st => den_first (pr := pr) hI hp (st := st) hw2.c (by simp; omega)
    have hnil : l.drop (8 * k) ≠ [] := by
      intro h
      have := congrArg List.length h
      simp at this
      omega
    have hdl : (l.drop (8 * k)).length = l.length - 8 * k := by simp
    rw [dcA, dif_neg hnil] at hdc
    rw [dcCnt, dif_neg hnil] at hacc
    have hfw := @firstOf_w (l.drop (8 * k))
    have hsp := slotW_pos (l.drop (8 * k))
    rw [List.drop_drop] at hdc hacc
    generalize slotW (l.drop (8 * k)) = sw at *
    generalize firstOf (l.drop (8 * k)) = fo at *
    obtain ⟨x, wd, er⟩ := fo
    simp only at hf hfw hdc hacc
    by_cases he : er = 0
    · rw [if_neg (by omega)] at hdc hacc
      obtain ⟨g1, g2, _⟩ := hfw he
      have a2 : IntKind.wrap .i64 ((k : Int) + wd) = ((k + sw : Nat) : Int) := by rw [wrap_i64 (by omega) (by omega)]; omega
      have hb1 : (acc.length + 1) * 40 ≤ 140737488355328 := by omega
      have hb2 : acc.length + 1 ≤ 140737488355328 := by omega
      have hfl := map_flat_len insC acc
      have hsum : (List.map (List.length ∘ Ins.cells) acc).sum = acc.length * 5 := by rw [← hfl, List.length_flatten, List.map_map]
      have hpos : 0 < acc.length + 1 := by omega
      simp [F72_code_Decode_b0, hlen, a1, h', hw1, hf, fillV, lay, ofDs, Ins.cells, reps, he, appV, vw, hb1, hb2, hsum, a2]
      refine ⟨l.length - 8 * (k + sw), by omega, ?_⟩
      rw [hJ]
      refine ⟨k + sw, acc ++ [x], bs ++ [.row (x.cells.map .d)], rfl, by omega, by rw [Nat.mul_add, List.length_append, List.length_singleton]; omega, ?_, ?_, ?_⟩
      · rw [← hdc, ← Nat.mul_add]
      · simp [Ins.cells]
      · simp [Ins.cells]
    · rw [if_pos he] at hdc
      simp [F72_code_Decode_b0, hlen, a1, h', hw1, hf, fillV, lay, ofDs, Ins.cells, reps, he, ← hdc]
  rcases hQ with ⟨acc, e, s, hw, rfl, h4⟩ | ⟨k, p, e, s, hw, rfl, h2, h3, h5⟩
  · simp [h4, decOut, hw, dsl]
  · simp [h2, h3, h5, decOut, hw, dsl]
end
end Go.Sh
