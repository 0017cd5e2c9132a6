/- Decode: what it hands out is new memory; the document's Decode. -/
import Derived.Test.YtnemobbnlacmjaaDoorShLcodeP
import Derived.Test.YtnemobbnlacmjaaDoorShBe
set_option linter.unusedVariables false
set_option linter.unusedSimpArgs false
namespace Go.Sh
section
variable {pr : Prog} (hI : IsaOk pr) (hp : Sub codeFns pr) {st : St}
include hI hp
theorem raw_Decode {u : V} {l : List UInt8} (hu : SlD 1 u (l.map byC)) (hl : l.length ≤ 140737488355328) (hcn : dcCnt l * 40 ≤ 140737488355328) : RawD pr F72_code_Decode [u] fun v s => (∃ acc, dcA [] 0 l = (acc, 0, 0) ∧ v = .tup [.own 5 acc.length (decide (0 < acc.length)) (acc.map Ins.cells).flatten 0, .d (.i .i64 0), .d (.i .i64 0)] ∧ s.tips[0]? = some acc.length) ∨
    ∃ k p, dcA [] 0 l = ([], p, k) ∧ v = .tup [.d (.sl 0 false []), .d (.i .i64 p), .d (.i .i64 k)] := by
  refine .of ?_
  have hlen := hu.len
  rw [List.length_map] at hlen
  have hes := fun st a b => hu.esc st a b
  simp [F72_code_Decode, hlen]
  generalize hL : cden pr (.loop _ _ _) _ _ = o
  obtain ⟨r, rfl, hQ⟩ : ∃ r, o = some r ∧ ((∃ acc e s, dcA [] 0 l = (acc, 0, 0) ∧ r = (.exit 0, e, s) ∧ e.get 5 = some (.own 5 acc.length (decide (0 < acc.length)) (acc.map Ins.cells).flatten 0) ∧ s.tips[0]? = some acc.length) ∨
      ∃ k p e s, dcA [] 0 l = ([], p, k) ∧ r = (.ret, e, s) ∧ e.get 2 = some (.d (.sl 0 false [])) ∧ e.get 3 = some (.d (.i .i64 p)) ∧ e.get 4 = some (.d (.i .i64 k))) := by
    rw [← hL]
    obtain ⟨J, hJ⟩ : ∃ J : Nat → Env → St → Prop, J = (fun n e st => ∃ (k : Nat) (acc : List Ins) (bs : List Blk), n = l.length - 8 * k ∧ 8 * k ≤ l.length ∧ acc.length + dcCnt (l.drop (8 * k)) = dcCnt l ∧ dcA acc k (l.drop (8 * k)) = dcA [] 0 l ∧ st = s0 bs [acc.length] 0 0 ∧
      e = [(0, u), (5, .own 5 acc.length (decide (0 < acc.length)) (acc.map Ins.cells).flatten 0), (6, .d (.i .i64 k))]) := ⟨_, rfl⟩
    refine loop_j J ?_ (n := l.length) ?_
    rotate_left
    · rw [hJ]
      exact ⟨0, [], [], by omega, by omega, by simp, rfl, rfl, by simp⟩
    intro n e st hj
    rw [hJ] at hj
    obtain ⟨k, acc, bs, rfl, hk, hacc, hdc, rfl, rfl⟩ := hj
    have a1 : IntKind.wrap .i64 (8 * (k : Int)) = 8 * k := wrap_i64 (by omega) (by omega)
    rcases Nat.lt_or_ge (8 * k) l.length with h | h
    rotate_left
    · have h' : ¬ 8 * (k : Int) < l.length := by omega
      rw [List.drop_of_length_le h, dcA, dif_pos rfl] at hdc
      simp [F72_code_Decode_b0, hlen, a1, h']
      exact ⟨acc, hdc.symm, _, _, ⟨rfl, rfl⟩, by simp, rfl⟩
    have h' : 8 * (k : Int) < l.length := by omega
    obtain ⟨w, hw1, hw2⟩ := hu.slice (lo := some (.d (.i .i64 (8 * (k : Int))))) (hi := none) (a := 8 * k) (b := l.length) (by simp [Bd]) (by simp [Bd]) (by omega) (by simp)
    rw [← List.map_take, ← List.map_drop, List.take_length] at hw2
    have hf := fun st => den_first (pr := pr) hI hp (st := st) hw2.c (by simp; omega)
    have hnil : l.drop (8 * k) ≠ [] := by
      intro h
      have := congrArg List.length h
      simp at this
      omega
    have hdl : (l.drop (8 * k)).length = l.length - 8 * k := by simp
    rw [dcA, dif_neg hnil] at hdc
    rw [dcCnt, dif_neg hnil] at hacc
    have hfw := @firstOf_w (l.drop (8 * k))
    have hsp := slotW_pos (l.drop (8 * k))
    rw [List.drop_drop] at hdc hacc
    generalize slotW (l.drop (8 * k)) = sw at *
    generalize firstOf (l.drop (8 * k)) = fo at *
    obtain ⟨x, wd, er⟩ := fo
    simp only at hf hfw hdc hacc
    by_cases he : er = 0
    · rw [if_neg (by omega)] at hdc hacc
      obtain ⟨g1, g2, _⟩ := hfw he
      have a2 : IntKind.wrap .i64 ((k : Int) + wd) = ((k + sw : Nat) : Int) := by rw [wrap_i64 (by omega) (by omega)]; omega
      have hb1 : (acc.length + 1) * 40 ≤ 140737488355328 := by omega
      have hb2 : acc.length + 1 ≤ 140737488355328 := by omega
      have hfl := map_flat_len insC acc
      have hsum : (List.map (List.length ∘ Ins.cells) acc).sum = acc.length * 5 := by rw [← hfl, List.length_flatten, List.map_map]
      have hpos : 0 < acc.length + 1 := by omega
      simp [F72_code_Decode_b0, hlen, a1, h', hw1, hf, fillV, lay, ofDs, Ins.cells, reps, he, appV, vw, hb1, hb2, hsum, a2]
      refine ⟨l.length - 8 * (k + sw), by omega, ?_⟩
      rw [hJ]
      refine ⟨k + sw, acc ++ [x], bs ++ [.row (x.cells.map .d)], rfl, by omega, by rw [Nat.mul_add, List.length_append, List.length_singleton]; omega, ?_, ?_, ?_⟩
      · rw [← hdc, ← Nat.mul_add]
      · simp [Ins.cells]
      · simp [Ins.cells]
    · rw [if_pos he] at hdc
      simp [F72_code_Decode_b0, hlen, a1, h', hw1, hf, fillV, lay, ofDs, Ins.cells, reps, he, ← hdc]
  rcases hQ with ⟨acc, e, s, hw, rfl, h4, h6⟩ | ⟨k, p, e, s, hw, rfl, h2, h3, h5⟩
  · simp [h4]
    exact ⟨acc, hw, ⟨rfl, Iff.rfl, rfl⟩, h6⟩
  · simp [h2, h3, h5]
    exact ⟨k, p, hw, rfl, rfl⟩
end
section
variable {pr : Prog} (hR : RefOk pr) (hd : Sub refDFns pr) {st : St}
include hR hd
theorem den_refDecode {v : V} {l : List UInt8} (hv : SlC 1 v (l.map byC)) (hl : l.length ≤ 140737488355328) (hcn : dcCnt l * 40 ≤ 140737488355328) : den pr 213 [v] st = some (decOut (dcA [] 0 l), st) := by
  obtain ⟨u, hc, hu⟩ := hv.close
  refine den_shut (hd.at 0 rfl) rfl rfl (by simp [hc]; rfl) ?_
  have hlen := hu.len
  rw [List.length_map] at hlen
  have hes := fun st a b => hu.esc st a b
  simp [F213_spindleref3_Decode, hlen]
  generalize hL : cden pr (.loop _ _ _) _ _ = o
  obtain ⟨r, rfl, hQ⟩ : ∃ r, o = some r ∧ ((∃ acc e s, dcA [] 0 l = (acc, 0, 0) ∧ r = (.exit 0, e, s) ∧ e.get 5 = some (.own 5 acc.length (decide (0 < acc.length)) (acc.map Ins.cells).flatten 0) ∧ s.tips[0]? = some acc.length) ∨
      ∃ k p e s, dcA [] 0 l = ([], p, k) ∧ r = (.ret, e, s) ∧ e.get 2 = some (.d (.sl 0 false [])) ∧ e.get 3 = some (.d (.i .i64 p)) ∧ e.get 4 = some (.d (.i .i64 k))) := by
    rw [← hL]
    obtain ⟨J, hJ⟩ : ∃ J : Nat → Env → St → Prop, J = (fun n e st => ∃ (k : Nat) (acc : List Ins) (bs : List Blk), n = l.length - 8 * k ∧ 8 * k ≤ l.length ∧ acc.length + dcCnt (l.drop (8 * k)) = dcCnt l ∧ dcA acc k (l.drop (8 * k)) = dcA [] 0 l ∧ st = s0 bs [acc.length] 0 0 ∧
      e = [(0, u), (5, .own 5 acc.length (decide (0 < acc.length)) (acc.map Ins.cells).flatten 0), (6, .d (.i .i64 k))]) := ⟨_, rfl⟩
    refine loop_j J ?_ (n := l.length) ?_
    rotate_left
    · rw [hJ]
      exact ⟨0, [], [], by omega, by omega, by simp, rfl, rfl, by simp⟩
    intro n e st hj
    rw [hJ] at hj
    obtain ⟨k, acc, bs, rfl, hk, hacc, hdc, rfl, rfl⟩ := hj
    have a1 : IntKind.wrap .i64 (8 * (k : Int)) = 8 * k := wrap_i64 (by omega) (by omega)
    rcases Nat.lt_or_ge (8 * k) l.length with h | h
    rotate_left
    · have h' : ¬ 8 * (k : Int) < l.length := by omega
      rw [List.drop_of_length_le h, dcA, dif_pos rfl] at hdc
      simp [F213_spindleref3_Decode_b0, hlen, a1, h']
      exact ⟨acc, hdc.symm, _, _, ⟨rfl, rfl⟩, by simp, rfl⟩
    have h' : 8 * (k : Int) < l.length := by omega
    have hf := fun st => den_One hR hd (st := st) hu.c (by omega) (s := k) (by omega)
    have hnil : l.drop (8 * k) ≠ [] := by
      intro h
      have := congrArg List.length h
      simp at this
      omega
    have hdl : (l.drop (8 * k)).length = l.length - 8 * k := by simp
    rw [dcA, dif_neg hnil] at hdc
    rw [dcCnt, dif_neg hnil] at hacc
    have hfw := @firstOf_w (l.drop (8 * k))
    have hsp := slotW_pos (l.drop (8 * k))
    rw [List.drop_drop] at hdc hacc
    generalize slotW (l.drop (8 * k)) = sw at *
    generalize firstOf (l.drop (8 * k)) = fo at *
    obtain ⟨x, wd, er⟩ := fo
    simp only at hf hfw hdc hacc
    by_cases he : er = 0
    · rw [if_neg (by omega)] at hdc hacc
      obtain ⟨g1, g2, _⟩ := hfw he
      have a2 : IntKind.wrap .i64 ((k : Int) + wd) = ((k + sw : Nat) : Int) := by rw [wrap_i64 (by omega) (by omega)]; omega
      have hb1 : (acc.length + 1) * 40 ≤ 140737488355328 := by omega
      have hb2 : acc.length + 1 ≤ 140737488355328 := by omega
      have hfl := map_flat_len insC acc
      have hsum : (List.map (List.length ∘ Ins.cells) acc).sum = acc.length * 5 := by rw [← hfl, List.length_flatten, List.map_map]
      have hpos : 0 < acc.length + 1 := by omega
      simp [F213_spindleref3_Decode_b0, hlen, a1, h', hf, fillV, lay, ofDs, Ins.cells, reps, he, appV, vw, hb1, hb2, hsum, a2]
      refine ⟨l.length - 8 * (k + sw), by omega, ?_⟩
      rw [hJ]
      refine ⟨k + sw, acc ++ [x], bs ++ [.row (x.cells.map .d)], rfl, by omega, by rw [Nat.mul_add, List.length_append, List.length_singleton]; omega, ?_, ?_, ?_⟩
      · rw [← hdc, ← Nat.mul_add]
      · simp [Ins.cells]
      · simp [Ins.cells]
    · rw [if_pos he] at hdc
      simp [F213_spindleref3_Decode_b0, hlen, a1, h', hf, fillV, lay, ofDs, Ins.cells, reps, he, ← hdc]
  rcases hQ with ⟨acc, e, s, hw, rfl, h4, _⟩ | ⟨k, p, e, s, hw, rfl, h2, h3, h5⟩
  · simp [h4, decOut, hw, dsl]
  · simp [h2, h3, h5, decOut, hw, dsl]
end
end Go.Sh
