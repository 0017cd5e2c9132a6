/- What the functions of the law CodeSlots come to, on shadow runs: Slots of the program and of the document, Lend, Turned, Back, and the law itself. -/
import Derived.Test.YtgafhgbnjohbeaaSh28
import Derived.Test.YtgafhgbnjohbeaaShT1
set_option linter.unusedVariables false
set_option linter.unusedSimpArgs false
namespace Go.Sh
open Go.Proofs.Ytgafhgbnjohbeaa.codeSlots
structure Ins where
  op : Int
  dst : Int
  src : Int
  off : Int
  imm : Int
  deriving DecidableEq
def Ins.cells (x : Ins) : List D := [.i .i64 x.op, .i .i64 x.dst, .i .i64 x.src, .i .i64 x.off, .i .i64 x.imm]
theorem den_wide (a : Int) (st : St) : den pr 8 [.d (.i .i64 a)] st = some (.d (.b (decide (a = 24))), st) := by
  rw [den_fn (fn := F8_spindleref3_wide) rfl rfl]
  obtain ⟨s, hs, h1, h2, h3, h4⟩ := start_facts F8_spindleref3_wide rfl st
  rw [hs]
  simp [F8_spindleref3_wide]
theorem den_behind (i : Int) (st : St) : den pr 6 [.d (.i .i64 i)] st = some (.agg [.d (.i .i64 149), .d (.i .i64 (IntKind.wrap .i64 (-7 - i))), .d (.i .i64 0), .d (.i .i64 0), .d (.i .i64 i)], st) := by
  rw [den_fn (fn := F6_spindlelaw3_behind) rfl rfl]
  obtain ⟨s, hs, h1, h2, h3, h4⟩ := start_facts F6_spindlelaw3_behind rfl st
  rw [hs]
  simp [F6_spindlelaw3_behind, fillV, lay, ofDs, h1, h3]
/-- How many slots. -/
def cnt : List Ins → Nat
  | [] => 0
  | x :: r => (if x.op = 24 then 2 else 1) + cnt r
theorem cnt_append (a b : List Ins) : cnt (a ++ b) = cnt a + cnt b := by
  induction a with
  | nil => simp [cnt]
  | cons x r ih => simp [cnt, ih]; omega
theorem cnt_le (a : List Ins) : cnt a ≤ 2 * a.length := by
  induction a with
  | nil => simp [cnt]
  | cons x r ih =>
    simp only [cnt, List.length_cons]
    split <;> omega
theorem cnt_ge (a : List Ins) : a.length ≤ cnt a := by
  induction a with
  | nil => simp [cnt]
  | cons x r ih =>
    simp only [cnt, List.length_cons]
    split <;> omega
theorem cnt_take (is : List Ins) {i : Nat} {x : Ins} (h : is[i]? = some x) : cnt (is.take (i + 1)) = cnt (is.take i) + if x.op = 24 then 2 else 1 := by
  rw [List.take_add_one, h, cnt_append]
  simp [cnt]
def SlI (v : V) (st : St) (is : List Ins) : Prop := SlV 5 v st (is.map Ins.cells)
theorem get_cells {is : List Ins} {i : Nat} {x : Ins} (h : is[i]? = some x) : (is.map Ins.cells)[i]? = some x.cells := by simp [h]

theorem SlV.esc {sz : Nat} {v : V} {st : St} {els : List (List D)} (h : SlV sz v st els) (s : St) (t : Nat) : esc1 s st.heap.length t v = some v := by
  obtain ⟨_, h⟩ := h
  split at h
  · rfl
  · obtain ⟨_, _, cs, h, _⟩ := h
    have := St.row_lt h
    simp [this]
  · exact h.elim
theorem den_slots (v : V) (st : St) (is : List Ins) (h : SlI v st is) (hl : is.length ≤ 1152921504606846976) : den pr 0 [v] st = some (.d (.i .i64 (cnt is)), st) := by
  rw [den_fn (fn := F0_code_Slots) rfl rfl]
  obtain ⟨s0, hs, g1, g2, g3, g4⟩ := start_facts F0_code_Slots rfl st
  rw [hs]
  have h : SlI v s0 is := SlV.more ⟨[], by simp [g1]⟩ h
  have hlen := h.len
  rw [List.length_map] at hlen
  have hc := cnt_le is
  obtain ⟨r, hr, e, rfl, hQ⟩ := loop_run (P := pr) (live := [3, 8, 9, 10]) (tr := true) (c := F0_code_Slots_b0) (Q := fun r => ∃ e, r = (.exit 0, e, s0) ∧ e.get 3 = some (.d (.i .i64 (cnt is))))
    (fun m e s => s = s0 ∧ ∃ i : Nat, i ≤ is.length ∧ m = is.length - i ∧ e = [(3, .d (.i .i64 ((is.length : Int) + cnt (is.take i) - i))), (8, v), (9, .d (.i .i64 is.length)), (10, .d (.i .i64 i))])
    (by
      rintro m e s ⟨rfl, i, hi, rfl, rfl⟩
      obtain ⟨s1, hs1, k1, k2, k3, k4⟩ := enter_facts s
      rw [hs1]
      have hce := cnt_le (is.take i)
      rw [List.length_take] at hce
      have he := fun s' => SlV.esc h s' s.tips.length
      rcases Nat.lt_or_ge i is.length with hlt | hge
      · obtain ⟨x, hx⟩ : ∃ x, is[i]? = some x := ⟨_, List.getElem?_eq_getElem hlt⟩
        obtain ⟨p, hp, hpe⟩ := h.at (get_cells hx) .i64
        have hld := ((hpe.more (st' := s1) ⟨[], by simp [k1]⟩).load (sz := 5) rfl (by omega))
        have hw : IntKind.wrap .i64 ((i : Int) + 1) = i + 1 := wrap_i64 (by omega) (by omega)
        have hw2 : IntKind.wrap .i64 ((is.length : Int) + cnt (is.take i) - i + 1) = (is.length : Int) + cnt (is.take i) - i + 1 := wrap_i64 (by omega) (by omega)
        have ht := cnt_take is hx
        by_cases ho : x.op = 24
        · simp [F0_code_Slots_b0, hlt, hp, hld, Ins.cells, ofDs, lay, k1, k2, k3, he, hw, hw2, Round, ho]
          exact ⟨is.length - (i + 1), by omega, i + 1, by omega, rfl, by rw [ht, if_pos ho]; omega, by omega⟩
        · simp [F0_code_Slots_b0, hlt, hp, hld, Ins.cells, ofDs, lay, k1, k2, k3, he, hw, hw2, Round, ho]
          exact ⟨is.length - (i + 1), by omega, i + 1, by omega, rfl, by rw [ht, if_neg ho]; omega, by omega⟩
      · have hf : ¬ ((i : Int) < (is.length : Int)) := by omega
        simp [F0_code_Slots_b0, hf, he, Round, k2]
        obtain rfl : i = is.length := by omega
        simp
        omega) (n := is.length) (e := [(10, .d (.i .i64 0)), (9, .d (.i .i64 is.length)), (8, v), (3, .d (.i .i64 is.length)), (7, .d (.i .i64 is.length)), (6, v), (2, .d (.i .i64 0)), (0, v)]) (st := s0) (by simp; exact ⟨0, by simp [cnt]⟩)
  simp [F0_code_Slots, hlen, hr, hQ]
theorem den_ref (v : V) (st : St) (is : List Ins) (h : SlI v st is) (hl : is.length ≤ 1152921504606846976) : den pr 3 [v] st = some (.d (.i .i64 (cnt is)), st) := by
  rw [den_fn (fn := F3_spindleref3_Slots) rfl rfl]
  obtain ⟨s0, hs, g1, g2, g3, g4⟩ := start_facts F3_spindleref3_Slots rfl st
  rw [hs]
  have h : SlI v s0 is := SlV.more ⟨[], by simp [g1]⟩ h
  have hlen := h.len
  rw [List.length_map] at hlen
  have hc := cnt_le is
  obtain ⟨r, hr, e, rfl, hQ⟩ := loop_run (P := pr) (live := [0, 3, 4]) (tr := false) (c := F3_spindleref3_Slots_b0) (Q := fun r => ∃ e, r = (.exit 0, e, s0) ∧ e.get 3 = some (.d (.i .i64 (cnt is))))
    (fun m e s => s = s0 ∧ ∃ i : Nat, i ≤ is.length ∧ m = is.length - i ∧ e = [(0, v), (3, .d (.i .i64 (cnt (is.take i)))), (4, .d (.i .i64 i))])
    (by
      rintro m e s ⟨rfl, i, hi, rfl, rfl⟩
      have hce := cnt_le (is.take i)
      rw [List.length_take] at hce
      rcases Nat.lt_or_ge i is.length with hlt | hge
      · obtain ⟨x, hx⟩ : ∃ x, is[i]? = some x := ⟨_, List.getElem?_eq_getElem hlt⟩
        obtain ⟨p, hp, hpe⟩ := h.at (get_cells hx) .i64
        obtain ⟨q, hq, hqe⟩ := ElP.faddr (a := []) (off := 0) hpe rfl
        have hld := hqe.load1
        have hw : IntKind.wrap .i64 ((i : Int) + 1) = i + 1 := wrap_i64 (by omega) (by omega)
        have hw2 : IntKind.wrap .i64 ((cnt (is.take i) : Int) + 1) = cnt (is.take i) + 1 := wrap_i64 (by omega) (by omega)
        have hw3 : IntKind.wrap .i64 ((cnt (is.take i) : Int) + 1 + 1) = cnt (is.take i) + 1 + 1 := wrap_i64 (by omega) (by omega)
        have ht := cnt_take is hx
        by_cases ho : x.op = 24
        · simp [F3_spindleref3_Slots_b0, hlt, hlen, hp, hq, hld, den_wide, hw, hw2, hw3, Round, ho]
          exact ⟨is.length - (i + 1), by omega, i + 1, by omega, rfl, by rw [ht, if_pos ho]; omega, by omega⟩
        · simp [F3_spindleref3_Slots_b0, hlt, hlen, hp, hq, hld, den_wide, hw, hw2, hw3, Round, ho]
          exact ⟨is.length - (i + 1), by omega, i + 1, by omega, rfl, by rw [ht, if_neg ho]; omega, by omega⟩
      · have hf : ¬ ((i : Int) < (is.length : Int)) := by omega
        simp [F3_spindleref3_Slots_b0, hf, hlen, Round]
        obtain rfl : i = is.length := by omega
        simp) (n := is.length) (e := [(4, .d (.i .i64 0)), (3, .d (.i .i64 0)), (2, .d (.i .i64 0)), (0, v)]) (st := s0) (by simp; exact ⟨0, by simp [cnt]⟩)
  simp [F3_spindleref3_Slots, hr, hQ]
theorem ins_eq (x y : Ins) : eqV [9, 0, 0, 0, 0, 0] (.agg (ofDs x.cells)) (.agg (ofDs y.cells)) = some (decide (x = y)) := by
  obtain ⟨a, b, c, d, e⟩ := x
  obtain ⟨a', b', c', d', e'⟩ := y
  simp only [eqV, toDs_ofDs', Ins.cells, List.length_cons, List.length_nil, eqDs, eqK, Ins.mk.injEq]
  by_cases h1 : a = a' <;> by_cases h2 : b = b' <;> by_cases h3 : c = c' <;> by_cases h4 : d = d' <;> by_cases h5 : e = e' <;> simp [h1, h2, h3, h4, h5]
theorem den_same (v w : V) (st : St) (is js : List Ins) (h : SlI v st is) (k : SlI w st js) (hl : is.length ≤ 1152921504606846976) (hl' : js.length ≤ 1152921504606846976) : den pr 9 [v, w] st = some (.d (.b (decide (is = js))), st) := by
  rw [den_fn (fn := F9_spindlelaw0_SameInsns) rfl rfl]
  obtain ⟨s0, hs, g1, g2, g3, g4⟩ := start_facts F9_spindlelaw0_SameInsns rfl st
  rw [hs]
  have h : SlI v s0 is := SlV.more ⟨[], by simp [g1]⟩ h
  have k : SlI w s0 js := SlV.more ⟨[], by simp [g1]⟩ k
  have hlen := h.len
  have klen := k.len
  rw [List.length_map] at hlen klen
  by_cases hne : is.length = js.length
  · rw [← hne] at klen
    obtain ⟨r, hr, hQ⟩ := loop_run (P := pr) (live := [0, 1, 5]) (tr := false) (c := F9_spindlelaw0_SameInsns_b0) (Q := fun r => (is = js → ∃ e, r = (.exit 0, e, s0)) ∧ (is ≠ js → ∃ e, r = (.ret, e, s0) ∧ e.get 4 = some (.d (.b false))))
      (fun m e s => s = s0 ∧ ∃ i : Nat, i ≤ is.length ∧ m = is.length - i ∧ is.take i = js.take i ∧ e = [(0, v), (1, w), (5, .d (.i .i64 i))])
      (by
        rintro m e s ⟨rfl, i, hi, rfl, htk, rfl⟩
        rcases Nat.lt_or_ge i is.length with hlt | hge
        · obtain ⟨x, hx⟩ : ∃ x, is[i]? = some x := ⟨_, List.getElem?_eq_getElem hlt⟩
          obtain ⟨y, hy⟩ : ∃ y, js[i]? = some y := ⟨_, List.getElem?_eq_getElem (by omega)⟩
          obtain ⟨p, hp, hpe⟩ := h.at (get_cells hx) .i64
          obtain ⟨q, hq, hqe⟩ := k.at (get_cells hy) .i64
          have hld := hpe.load (sz := 5) rfl (by omega)
          have kld := hqe.load (sz := 5) rfl (by omega)
          have hw : IntKind.wrap .i64 ((i : Int) + 1) = i + 1 := wrap_i64 (by omega) (by omega)
          by_cases hxy : x = y
          · subst hxy
            simp [F9_spindlelaw0_SameInsns_b0, hlt, hlen, hp, hq, hld, kld, ins_eq, hw, Round]
            exact ⟨is.length - (i + 1), by omega, i + 1, by omega, rfl, by rw [List.take_add_one, List.take_add_one, htk, hx, hy], by omega⟩
          · have : is ≠ js := by
              rintro rfl
              rw [hx] at hy
              exact hxy (Option.some.inj hy)
            simp [F9_spindlelaw0_SameInsns_b0, hlt, hlen, hp, hq, hld, kld, ins_eq, hxy, Round, this]
        · have hf : ¬ ((i : Int) < (is.length : Int)) := by omega
          have : is = js := by
            have : i = is.length := by omega
            subst this
            rw [List.take_of_length_le (Nat.le_refl _), List.take_of_length_le (by omega)] at htk
            exact htk
          simp [F9_spindlelaw0_SameInsns_b0, hf, hlen, Round]
          exact this) (n := is.length) (e := [(5, .d (.i .i64 0)), (10, .d (.b false)), (9, .d (.i .i64 is.length)), (8, w), (7, .d (.i .i64 is.length)), (6, v), (4, .d (.b false)), (0, v), (1, w)]) (st := s0) (by simp; exact ⟨0, by simp⟩)
    by_cases heq : is = js
    · obtain ⟨e, rfl⟩ := hQ.1 heq
      have hd : decide (is = js) = true := decide_eq_true heq
      simp [F9_spindlelaw0_SameInsns, hlen, klen, hr, -decide_eq_true_eq, hd]
    · obtain ⟨e, rfl, h4⟩ := hQ.2 heq
      simp [F9_spindlelaw0_SameInsns, hlen, klen, hr, heq, h4]
  · have : is ≠ js := by rintro rfl; exact hne rfl
    have hn : ¬ ((is.length : Int) = (js.length : Int)) := by omega
    simp [F9_spindlelaw0_SameInsns, hlen, klen, hn, this]
/-- What stands behind a list that is lent. -/
def bh (i : Nat) : List D := [.i .i64 149, .i .i64 (IntKind.wrap .i64 (-7 - (i : Int))), .i .i64 0, .i .i64 0, .i .i64 i]
def z5 : List D := [.i .i64 0, .i .i64 0, .i .i64 0, .i .i64 0, .i .i64 0]
def stp (N i : Nat) : List (List D) := (List.range i).map bh ++ List.replicate (N - i) z5
theorem stp_len {N i : Nat} (h : i ≤ N) : (stp N i).length = N := by simp [stp]; omega
theorem stp_5 (N i : Nat) : ∀ x ∈ stp N i, x.length = 5 := by
  intro x hx
  simp only [stp, List.mem_append, List.mem_map, List.mem_range, List.mem_replicate] at hx
  rcases hx with ⟨j, _, rfl⟩ | ⟨_, rfl⟩ <;> rfl
theorem stp_set {N i : Nat} (h : i < N) : (stp N i).set i (bh i) = stp N (i + 1) := by
  unfold stp
  rw [List.set_append_right _ _ (by simp)]
  simp only [List.length_map, List.length_range, Nat.sub_self]
  obtain ⟨k, hk⟩ : ∃ k, N - i = k + 1 := ⟨N - i - 1, by omega⟩
  rw [hk, show N - (i + 1) = k by omega, List.replicate_succ, List.set_cons_zero, List.range_succ, List.map_append, List.append_assoc]
  rfl
theorem reps_flat {z : List D} {n : Nat} : reps n z = (List.replicate n z).flatten := rfl
theorem den_bh (i : Nat) (st : St) : den pr 6 [.d (.i .i64 i)] st = some (.agg (ofDs (bh i)), st) := by
  rw [den_behind]
  rfl
theorem den_lend (v : V) (st : St) (is : List Ins) (h : SlI v st is) (hl : is.length ≤ 3518437208784) (hf : st.floor ≤ st.heap.length) :
    den pr 1 [v] st = some (.rsl 5 st.heap.length 0 is.length (2 * is.length + 70), st.push (.row (ofDs (is.map Ins.cells ++ (stp (2 * is.length + 70) (2 * is.length + 70)).drop is.length).flatten))) := by
  rw [den_fn (fn := F1_spindlelaw3_Lend) rfl rfl, start_raw _ rfl]
  have hlen := h.len
  rw [List.length_map] at hlen
  generalize hN : 2 * is.length + 70 = N
  have hw0 : IntKind.wrap .i64 (2 * (is.length : Int)) = 2 * is.length := wrap_i64 (by omega) (by omega)
  have hw1 : IntKind.wrap .i64 (2 * (is.length : Int) + 70) = (N : Nat) := by rw [wrap_i64 (by omega) (by omega)]; omega
  have hroom : room 40 (.d (.i .i64 (N : Nat))) = some N := by simp [room]; omega
  obtain ⟨r, hr, e, rfl, hQ⟩ := loop_run (P := pr) (live := [0, 3, 4]) (tr := false) (c := F1_spindlelaw3_Lend_b0) (Q := fun r => ∃ e, r = (.exit 0, e, st.push (.row (ofDs (stp N N).flatten))) ∧ e.get 0 = some v ∧ e.get 3 = some (.rsl 5 st.heap.length 0 N N))
    (fun m e s => ∃ i : Nat, i ≤ N ∧ m = N - i ∧ s = st.push (.row (ofDs (stp N i).flatten)) ∧ e = [(0, v), (3, .rsl 5 st.heap.length 0 N N), (4, .d (.i .i64 i))])
    (by
      rintro m e s ⟨i, hi, rfl, rfl, rfl⟩
      rcases Nat.lt_or_ge i N with hlt | hge
      · have hw : IntKind.wrap .i64 ((i : Int) + 1) = i + 1 := wrap_i64 (by omega) (by omega)
        obtain ⟨s', h1, h2, h3⟩ := (Row.push st (stp_5 N i)).store (i := i) (el := bh i) rfl (by rw [stp_len hi]; exact hlt) (by simpa using hf)
        rw [stp_set hlt, set_push] at h3
        subst h3
        simp only [F1_spindlelaw3_Lend_b0]
        simp [hlt, den_bh, iaddr_rsl hlt, -storeV_ptr, h1, hw, Round]
        exact ⟨N - (i + 1), by omega, i + 1, by omega, rfl, rfl, by omega⟩
      · obtain rfl : i = N := by omega
        simp [F1_spindlelaw3_Lend_b0, Round]) (n := N) (e := [(4, .d (.i .i64 0)), (3, .rsl 5 st.heap.length 0 N N), (9, .rsl 5 st.heap.length 0 N N), (8, .d (.i .i64 (N : Nat))), (7, .d (.i .i64 (2 * is.length))), (6, .d (.i .i64 is.length)), (5, v), (2, .d (.sl 0 false [])), (0, v)]) (st := st.push (.row (ofDs (reps N z5)))) (by simp; exact ⟨0, by simp [stp, reps_flat]⟩)
  have h' : SlI v (st.push (.row (ofDs (stp N N).flatten))) is := SlV.more (.push _ _) h
  obtain ⟨s', h1, h2, h3⟩ := (Row.push st (stp_5 N N)).copy (cap := N) (n := N) h' (by simp; omega) (Nat.le_of_eq (stp_len (Nat.le_refl _)).symm) (by simpa using hf)
  rw [set_push] at h3
  subst h3
  rw [List.length_map] at h1
  have hz : z5 = [.i .i64 0, .i .i64 0, .i .i64 0, .i .i64 0, .i .i64 0] := rfl
  rw [hz] at hr
  have hle : is.length ≤ N := by omega
  simp [F1_spindlelaw3_Lend, hlen, hw0, hw1, hroom, hr, hQ, h1, slcV, bnds, bnd, hle]
theorem ofDs_take {l : List D} {n : Nat} : (ofDs l).take n = ofDs (l.take n) := by simp [ofDs]
theorem ofDs_drop {l : List D} {n : Nat} : (ofDs l).drop n = ofDs (l.drop n) := by simp [ofDs]
theorem bh_eq (a b : Nat) : eqV [9, 0, 0, 0, 0, 0] (.agg (ofDs (bh a))) (.agg (ofDs (bh b))) = some (decide (a = b)) := by
  simp only [eqV, toDs_ofDs', bh, List.length_cons, List.length_nil, eqDs, eqK]
  by_cases h : a = b
  · simp [h]
  · have : ¬ ((a : Int) = b) := by omega
    by_cases h2 : IntKind.wrap .i64 (-7 - (a : Int)) = IntKind.wrap .i64 (-7 - (b : Int)) <;> simp [h, this, h2]
theorem den_back (w : V) (st : St) (id : Nat) (is : List Ins) (hr : Row 5 st id (is.map Ins.cells ++ (stp (2 * is.length + 70) (2 * is.length + 70)).drop is.length)) (h : SlI w st is) (hl : is.length ≤ 3518437208784) :
    den pr 4 [.rsl 5 id 0 is.length (2 * is.length + 70), w] st = some (.d (.b true), st) := by
  rw [den_fn (fn := F4_spindlelaw3_Back) rfl rfl]
  obtain ⟨s0, hs, g1, g2, g3, g4⟩ := start_facts F4_spindlelaw3_Back rfl st
  rw [hs]
  have hm : st.more s0 := ⟨[], by simp [g1]⟩
  have h : SlI w s0 is := SlV.more hm h
  have hr : Row 5 s0 id (is.map Ins.cells ++ (stp (2 * is.length + 70) (2 * is.length + 70)).drop is.length) := ⟨hr.1, hm.row hr.2⟩
  have hlen := h.len
  rw [List.length_map] at hlen
  generalize hN : 2 * is.length + 70 = N at hr
  have hw0 : IntKind.wrap .i64 (2 * (is.length : Int)) = 2 * is.length := wrap_i64 (by omega) (by omega)
  have hw1 : IntKind.wrap .i64 (2 * (is.length : Int) + 70) = (N : Nat) := by rw [wrap_i64 (by omega) (by omega)]; omega
  have hel : (is.map Ins.cells ++ (stp N N).drop is.length).length = N := by
    simp [stp_len (Nat.le_refl N)]
    omega
  have hfull : SlV 5 (.rsl 5 id 0 N N) s0 (is.map Ins.cells ++ (stp N N).drop is.length) := by
    have := hr.slv (n := N) (cap := N) (by omega)
    rwa [List.take_of_length_le (by omega)] at this
  have hgiven : SlI (.rsl 5 id 0 is.length N) s0 is := by
    have := hr.slv (n := is.length) (cap := N) (by rw [hel]; omega)
    rwa [List.take_left' (by simp)] at this
  obtain ⟨r, hrun, e, rfl, hQ⟩ := loop_run (P := pr) (live := [0, 1, 5, 6]) (tr := false) (c := F4_spindlelaw3_Back_b0) (Q := fun r => ∃ e, r = (.exit 0, e, s0) ∧ e.get 0 = some (.rsl 5 id 0 is.length N) ∧ e.get 1 = some w)
    (fun m e s => s = s0 ∧ ∃ i : Nat, is.length ≤ i ∧ i ≤ N ∧ m = N - i ∧ e = [(0, .rsl 5 id 0 is.length N), (1, w), (5, .rsl 5 id 0 N N), (6, .d (.i .i64 i))])
    (by
      rintro m e s ⟨rfl, i, hge, hi, rfl, rfl⟩
      rcases Nat.lt_or_ge i N with hlt | hge'
      · have hw : IntKind.wrap .i64 ((i : Int) + 1) = i + 1 := wrap_i64 (by omega) (by omega)
        have hx : (is.map Ins.cells ++ (stp N N).drop is.length)[i]? = some (bh i) := by
          rw [List.getElem?_append_right (by simp; omega), List.getElem?_drop]
          simp only [List.length_map, stp, Nat.sub_self, List.replicate_zero, List.append_nil]
          rw [show is.length + (i - is.length) = i by omega, List.getElem?_map, List.getElem?_range hlt]
          rfl
        obtain ⟨p, hp, hpe⟩ := hfull.at hx .i64
        have hld := hpe.load (sz := 5) rfl (by omega)
        simp [F4_spindlelaw3_Back_b0, hlt, hp, hld, den_bh, bh_eq, hw, Round]
        exact ⟨N - (i + 1), by omega, i + 1, by omega, by omega, rfl, by omega⟩
      · obtain rfl : i = N := by omega
        simp [F4_spindlelaw3_Back_b0, Round]) (n := N - is.length) (e := [(6, .d (.i .i64 is.length)), (14, .d (.i .i64 is.length)), (13, w), (5, .rsl 5 id 0 N N), (12, .rsl 5 id 0 N N), (11, .d (.i .i64 (N : Nat))), (10, .d (.i .i64 (2 * is.length))), (9, .d (.i .i64 is.length)), (8, w), (7, .rsl 5 id 0 is.length N), (4, .d (.b false)), (0, .rsl 5 id 0 is.length N), (1, w)]) (st := s0) (by simp; exact ⟨is.length, by omega, by omega, rfl, rfl⟩)
  have hs9 := den_same _ _ s0 is is hgiven h (by omega) (by omega)
  simp [F4_spindlelaw3_Back, hlen, hw0, hw1, hrun, hQ, slcV, bnds, bnd, hs9]
/-- A copy in a new row. -/
theorem copy_w (v : V) (st : St) (is : List Ins) (h : SlI v st is) (hl : is.length ≤ 3518437208784) {Q : V → St → Prop}
    (hQ : ∀ id cap rest s, Row 5 s id (is.map Ins.cells ++ rest) → st.more s → st.heap.length ≤ id → s.floor = st.floor → s.tips = st.tips → Q (.rsl 5 id 0 is.length cap) s) : CallW pr 7 [v] st Q := by
  refine CallW.of_body (fn := F7_spindlelaw0_CopyInsns) rfl rfl ?_
  rw [start_raw _ rfl]
  refine CodeW.seq (CodeW.region ?_)
  simp [OpsW, OpW, Seq]
  refine CodeW.seq (CodeW.region ?_)
  have hm : st.more (st.push (.row [])) := .push _ _
  have h' : SlI v (st.push (.row [])) is := SlV.more hm h
  have hv := h'.vwV
  simp [OpsW, OpW, fillV, reps, ofDs, Seq]
  simp only [appW]
  have hrow : (st.push (.row [])).row st.heap.length = some [] := row_push_new rfl
  refine ⟨trivial, [], is.length, ofDs (is.map Ins.cells).flatten, hrow, by simpa using hv, ?_, by simp, by omega, by omega, ?_, ?_, ?_⟩
  · rw [ofDs_len, flatten_len h.1]
    simp
  · intro _ h0
    have : is = [] := List.eq_nil_of_length_eq_zero h0
    subst this
    refine CodeW.ret ?_
    simp [FinW, F7_spindlelaw0_CopyInsns]
    exact hQ st.heap.length 0 [] _ ⟨by simp, by simp [ofDs]⟩ hm (Nat.le_refl _) rfl rfl
  · intro h0 h1
    omega
  · intro hlt k
    refine CodeW.ret ?_
    simp [FinW, F7_spindlelaw0_CopyInsns]
    refine hQ _ _ (List.replicate k z5) _ ⟨?_, ?_⟩ (hm.trans (.push _ _)) (by simp) rfl rfl
    · intro x hx
      simp only [List.mem_append, List.mem_map, List.mem_replicate] at hx
      rcases hx with ⟨y, _, rfl⟩ | ⟨_, rfl⟩ <;> rfl
    · rw [row_push_new (by simp)]
      simp [ofDs, reps, z5]
theorem set_ins (is : List Ins) (i : Nat) (x : Ins) (rest : List (List D)) (h : i < is.length) : (is.map Ins.cells ++ rest).set i x.cells = (is.set i x).map Ins.cells ++ rest := by
  rw [List.set_append_left _ _ (by simpa using h), List.map_set]
/-- Turned: some list as long, in memory of its own; what there was stays. -/
theorem turned_w (v : V) (st : St) (is : List Ins) (t : Int) (h : SlI v st is) (hl : is.length ≤ 3518437208784) {Q : V → St → Prop}
    (hQ : ∀ js : List Ins, js.length = is.length → Q (.d (.sl is.length true (js.map Ins.cells).flatten)) st) : CallW pr 2 [v, .d (.i .i64 t)] st Q := by
  refine CallW.of_body (fn := F2_spindlelaw3_Turned) rfl rfl ?_
  obtain ⟨s0, hs, g1, g2, g3, g4⟩ := start_facts F2_spindlelaw3_Turned rfl st
  rw [hs]
  have h0 : SlI v s0 is := SlV.more ⟨[], by simp [g1]⟩ h
  refine CodeW.seq (CodeW.region ?_)
  simp [OpsW, OpW, Seq]
  refine CodeW.seq (CodeW.region ?_)
  simp [OpsW, OpW, Seq]
  refine copy_w v s0 is h0 hl ?_
  intro id cap rest s hrow hmore hid hfl htips
  have hv : SlI v s is := SlV.more hmore h0
  have hvl := hv.len
  rw [List.length_map] at hvl
  have hidf : s.floor ≤ id := by rw [hfl, g3, ← g1]; exact hid
  -- what the row holds in the end
  have fin : ∀ (js : List Ins) (s' : St) (e : Env), js.length = is.length → Row 5 s' id (js.map Ins.cells ++ rest) → e.get 4 = some (.rsl 5 id 0 is.length cap) → FinW F2_spindlelaw3_Turned st Q (.ret, e, s') := by
    intro js s' e hj hr he
    have hsl := (hr.slv (n := is.length) (cap := cap) (by simp; omega)).vw
    rw [List.take_left' (by simpa using hj)] at hsl
    simp only [Sh.vw, if_true, Option.map_eq_some_iff, Prod.mk.injEq] at hsl
    obtain ⟨ds, h1, h2, h3⟩ := hsl
    subst h3
    have hnid : ¬ id < st.heap.length := by rw [← g1]; omega
    simp [FinW, F2_spindlelaw3_Turned, he, hnid, h1]
    simpa using hQ js hj
  have more_set : ∀ (a : St) (b : Option Blk), s0.more a → s0.more { a with heap := a.heap.set id b } := by
    rintro a b ⟨l, hl⟩
    exact ⟨l.set (id - s0.heap.length) b, by simp only [hl]; rw [List.set_append_right _ _ hid]⟩
  obtain ⟨P1, hP1⟩ : ∃ P1 : Out → Prop, P1 = fun r => ∃ e1 s1 js, r = (.normal, e1, s1) ∧ List.length js = is.length ∧ Row 5 s1 id (js.map Ins.cells ++ rest) ∧ s0.more s1 ∧ s1.floor = s0.floor ∧ e1.get 0 = some v ∧ e1.get 1 = some (.d (.i .i64 t)) ∧ e1.get 5 = some (.rsl 5 id 0 is.length cap) := ⟨_, rfl⟩
  refine CodeW.seq (CodeW.mono (Q := P1) ?_ ?_)
  · by_cases ht : t = 1
    · subst ht
      rcases Nat.eq_zero_or_pos is.length with hz | hz
      · refine CodeW.of_ex ?_
        simp [hz]
        rw [hP1]
        exact ⟨_, _, is, rfl, rfl, hrow, hmore, hfl, by simp, by simp, by simp [hz]⟩
      · have hq : is.length / 2 < is.length := by omega
        have htd : Int.tdiv (is.length : Int) 2 = ((is.length / 2 : Nat) : Int) := by
          rw [Int.tdiv_eq_ediv_of_nonneg (by omega)]
          rfl
        have hwq : IntKind.wrap .i64 ((is.length / 2 : Nat) : Int) = ((is.length / 2 : Nat) : Int) := wrap_i64 (by omega) (by omega)
        obtain ⟨s', k1, k2, k3⟩ := hrow.store (i := is.length / 2) (el := (⟨149, 0, 0, 0, 0⟩ : Ins).cells) rfl (by simp; omega) hidf
        rw [set_ins _ _ _ _ hq] at k2
        have hz' : (0 : Int) < (is.length : Int) := by omega
        simp only [Ins.cells, ofDs, List.map_cons, List.map_nil] at k1
        refine CodeW.of_ex ?_
        simp [hz, hz', htd, hwq, iaddr_rsl hq, fillV, lay, ofDs, -storeV_ptr, k1, -Int.natCast_ediv]
        rw [hP1]
        exact ⟨_, _, is.set (is.length / 2) ⟨149, 0, 0, 0, 0⟩, rfl, by simp, k2, by rw [k3]; exact more_set _ _ hmore, by rw [k3]; exact hfl, by simp, by simp, by simp⟩
    · refine CodeW.of_ex ?_
      simp [ht]
      rw [hP1]
      exact ⟨_, _, is, rfl, rfl, hrow, hmore, hfl, by simp, by simp, by simp⟩
  · intro r hr1
    rw [hP1] at hr1
    obtain ⟨e1, s1, js, rfl, hj, hr, hm, hf1, h10, h11, h15⟩ := hr1
    simp only [Seq]
    have hidf1 : s1.floor ≤ id := by rw [hf1, g3, ← g1]; exact hid
    obtain ⟨r, hrun, e, s2, ks, rfl, kj, kr, k5⟩ := loop_run (P := pr) (live := [0, 1, 5, 6]) (tr := false) (c := F2_spindlelaw3_Turned_b0) (Q := fun r => ∃ e s ks, r = (.exit 0, e, s) ∧ List.length ks = is.length ∧ Row 5 s id (ks.map Ins.cells ++ rest) ∧ e.get 5 = some (.rsl 5 id 0 is.length cap))
      (fun m e s => ∃ (i : Nat) (ks : List Ins), i ≤ is.length ∧ m = is.length - i ∧ ks.length = is.length ∧ Row 5 s id (ks.map Ins.cells ++ rest) ∧ s0.more s ∧ s.floor = s0.floor ∧ e = [(0, v), (1, .d (.i .i64 t)), (5, .rsl 5 id 0 is.length cap), (6, .d (.i .i64 i))])
      (by
        rintro m e s ⟨i, ks, hi, rfl, hk, hrk, hmk, hfk, rfl⟩
        by_cases ht : t = 2
        · subst ht
          rcases Nat.lt_or_ge i is.length with hlt | hge
          · have hw : IntKind.wrap .i64 ((i : Int) + 1) = i + 1 := wrap_i64 (by omega) (by omega)
            have hvk : SlI v s is := SlV.more hmk h0
            have hvkl := hvk.len
            rw [List.length_map] at hvkl
            have hw1 : IntKind.wrap .i64 ((is.length : Int) - 1) = (is.length : Int) - 1 := wrap_i64 (by omega) (by omega)
            have hw2 : IntKind.wrap .i64 ((is.length : Int) - 1 - i) = ((is.length - 1 - i : Nat) : Int) := by rw [wrap_i64 (by omega) (by omega)]; omega
            obtain ⟨x, hx⟩ : ∃ x, is[is.length - 1 - i]? = some x := ⟨_, List.getElem?_eq_getElem (by omega)⟩
            obtain ⟨p, hp, hpe⟩ := hvk.at (get_cells hx) .i64
            have hld := hpe.load (sz := 5) rfl (by omega)
            obtain ⟨s', m1, m2, m3⟩ := hrk.store (i := i) (el := x.cells) rfl (by simp; omega) (by rw [hfk, ← hf1]; exact hidf1)
            rw [set_ins _ _ _ _ (by omega)] at m2
            simp [F2_spindlelaw3_Turned_b0, hlt, hvkl, hw1, hw2, hp, hld, iaddr_rsl hlt, -storeV_ptr, m1, hw, Round]
            exact ⟨is.length - (i + 1), by omega, i + 1, by omega, rfl, ks.set i x, by simpa using hk, m2, by rw [m3]; exact more_set _ _ hmk, by rw [m3]; exact hfk, by omega⟩
          · have hf : ¬ ((i : Int) < (is.length : Int)) := by omega
            simp [F2_spindlelaw3_Turned_b0, hf, Round]
            exact ⟨_, _, ⟨rfl, rfl⟩, ks, hk, hrk, by simp⟩
        · simp [F2_spindlelaw3_Turned_b0, ht, Round]
          exact ⟨_, _, ⟨rfl, rfl⟩, ks, hk, hrk, by simp⟩) (n := is.length) (e := (6, .d (.i .i64 0)) :: e1) (st := s1) (by simp [h10, h11, h15]; exact ⟨0, by omega, rfl, js, hj, hr, hm, hf1, rfl⟩)
    refine CodeW.of_ex ?_
    simp [hrun, k5]
    exact fin ks s2 _ kj kr (by simp)
theorem law_w (v : V) (st : St) (is : List Ins) (h : SlI v st is) (hl : is.length ≤ 3518437208784) (hf : st.floor ≤ st.heap.length) : CallW pr 5 [v] st (fun r _ => r = .d (.b true)) := by
  refine CallW.of_body (fn := F5_spindlelaw3_CodeSlots) rfl rfl ?_
  obtain ⟨s0, hs, g1, g2, g3, g4⟩ := start_facts F5_spindlelaw3_CodeSlots rfl st
  rw [hs]
  have h0 : SlI v s0 is := SlV.more ⟨[], by simp [g1]⟩ h
  have hlit : SlI (.d (.sl 2 true [.i .i64 149, .i .i64 0, .i .i64 0, .i .i64 0, .i .i64 0, .i .i64 24, .i .i64 0, .i .i64 0, .i .i64 0, .i .i64 0])) s0 [⟨149, 0, 0, 0, 0⟩, ⟨24, 0, 0, 0, 0⟩] :=
    ⟨by intro x hx; simp at hx; rcases hx with rfl | rfl <;> rfl, rfl, rfl⟩
  have hd3 := den_slots _ s0 _ hlit (by simp)
  have hc3 : cnt [⟨149, 0, 0, 0, 0⟩, ⟨24, 0, 0, 0, 0⟩] = 3 := by simp [cnt]
  rw [hc3] at hd3
  refine CodeW.seq (CodeW.region ?_)
  simp [OpsW, OpW, Seq]
  refine CodeW.seq (CodeW.of_ex ?_)
  simp [fillV, lay, ofDs, reps, hd3, Seq]
  generalize hid : s0.heap.length = id
  have hfl : s0.floor ≤ id := by rw [g3, ← g1, hid]; exact Nat.le_refl _
  have hlend := den_lend v s0 is h0 hl (by omega)
  generalize hN : 2 * is.length + 70 = N at hlend
  rw [hid] at hlend
  generalize hs1 : s0.push (.row (ofDs (is.map Ins.cells ++ (stp N N).drop is.length).flatten)) = s1 at hlend
  have hrow1 : Row 5 s1 id (is.map Ins.cells ++ (stp N N).drop is.length) := by
    subst hs1
    subst hid
    refine Row.push s0 ?_
    intro x hx
    simp only [List.mem_append, List.mem_map] at hx
    rcases hx with ⟨y, _, rfl⟩ | hx
    · rfl
    · exact stp_5 N N x (List.mem_of_mem_drop hx)
  have hv1 : SlI v s1 is := by subst hs1; exact SlV.more (.push _ _) h0
  have hm1 : s0.more s1 := by subst hs1; exact .push _ _
  have hf1 : s1.floor = s0.floor := by subst hs1; rfl
  refine CodeW.seq (CodeW.of_ex ?_)
  simp [hlend, Seq]
  obtain ⟨P1, hP1⟩ : ∃ P1 : Out → Prop, P1 = fun r => ∃ e1 s1, r = (.normal, e1, s1) := ⟨_, rfl⟩
  refine CodeW.seq (CodeW.mono (Q := P1) ?_ ?_)
  · refine CodeW.seq (CodeW.of_ex ?_)
    simp [Seq]
    refine CodeW.block ?_
    refine CodeW.loop (fun n e s => ∃ (t : Nat) (ks : List Ins), t ≤ 4 ∧ n = 4 - t ∧ ks.length = is.length ∧ Row 5 s id (ks.map Ins.cells ++ (stp N N).drop is.length) ∧ s0.more s ∧ s.floor = s0.floor ∧ mask [0, 3, 4] e = [(0, v), (3, .rsl 5 id 0 is.length N), (4, .d (.i .i64 t))]) ?_
      (n := 4) ⟨0, is, by omega, rfl, rfl, hrow1, hm1, hf1, by simp⟩
    rintro n e s ⟨t, ks, ht, rfl, hks, hrow, hm, hfs, hmask⟩
    rw [hmask, enter_false]
    simp only [F5_spindlelaw3_CodeSlots_b0]
    rcases Nat.lt_or_ge 3 t with h4 | h3
    · have hf : ¬ ((t : Int) ≤ 3) := by omega
      refine CodeW.seq (CodeW.of_ex ?_)
      simp [hf, Seq, Round, InBlock, hP1]
    · have hf : ((t : Int) ≤ 3) := by omega
      refine CodeW.seq (CodeW.of_ex ?_)
      simp [hf, Seq]
      have hv : SlI v s is := SlV.more hm h0
      obtain ⟨P2, hP2⟩ : ∃ P2 : Out → Prop, P2 = fun r => ∃ e1 s1, ∃ js : List Ins, r = (.normal, e1, s1) ∧ js.length = is.length ∧ Row 5 s1 id (js.map Ins.cells ++ (stp N N).drop is.length) ∧ s0.more s1 ∧ s1.floor = s0.floor ∧ e1.get 0 = some v ∧ e1.get 3 = some (.rsl 5 id 0 is.length N) ∧ e1.get 4 = some (.d (.i .i64 t)) := ⟨_, rfl⟩
      refine CodeW.seq (CodeW.mono (Q := P2) ?_ ?_)
      · refine CodeW.block ?_
        refine CodeW.seq (CodeW.region ?_)
        simp [OpsW, OpW, Seq]
        refine turned_w v s is t hv hl ?_
        intro js hj
        have hnow : ∀ s : St, SlI (.d (.sl is.length true (js.map Ins.cells).flatten)) s js := fun s => ⟨by intro x hx; simp at hx; obtain ⟨y, _, rfl⟩ := hx; rfl, by simp [hj], rfl⟩
        have hN' : (ks.map Ins.cells ++ (stp N N).drop is.length).length = N := by
          simp [stp_len (Nat.le_refl N)]
          omega
        obtain ⟨s', c1, c2, c3⟩ := hrow.copy (cap := N) (n := is.length) (hnow s) (by simp [hj]) (by rw [hN']; omega) (by rw [hfs]; exact hfl)
        rw [List.drop_left' (by simp [hj, hks])] at c2
        have hm' : s0.more s' := by
          rw [c3]
          obtain ⟨l, hl⟩ := hm
          exact ⟨l.set (id - s0.heap.length) _, by simp only [hl]; rw [List.set_append_right _ _ (by omega)]⟩
        have hgiven : SlI (.rsl 5 id 0 is.length N) s' js := by
          have := c2.slv (n := is.length) (cap := N) (by simp [stp_len (Nat.le_refl N)]; omega)
          rwa [List.take_left' (by simp [hj])] at this
        have d0 := den_slots _ s' js hgiven (by omega)
        have d3 := den_ref _ s' js (hnow s') (by omega)
        have hback := den_back (.d (.sl is.length true (js.map Ins.cells).flatten)) s' id js (by rw [hj, hN]; exact c2) (hnow s') (by omega)
        rw [hj, hN] at hback
        refine CodeW.of_ex ?_
        rw [List.length_map, hj] at c1
        simp [c1, d0, d3, hback, InBlock]
        rw [hP2]
        exact ⟨_, _, js, rfl, hj, c2, hm', by rw [c3]; exact hfs, by simp, by simp, by simp⟩
      · intro r hr
        rw [hP2] at hr
        obtain ⟨e1, s1, js, rfl, hj, hr, hm, hf1, h10, h13, h14⟩ := hr
        simp only [Seq]
        have hw : IntKind.wrap .i64 ((t : Int) + 1) = ((t + 1 : Nat) : Int) := by rw [wrap_i64 (by omega) (by omega)]; omega
        refine CodeW.of_ex ?_
        simp [h14, hw, Round]
        exact ⟨4 - (t + 1), by omega, t + 1, by omega, rfl, js, hj, hr, hm, hf1, by simp [h10, h13]⟩
  · intro r hr
    rw [hP1] at hr
    obtain ⟨e1, s1, rfl⟩ := hr
    simp only [Seq]
    refine CodeW.of_ex ?_
    simp [FinW, F5_spindlelaw3_CodeSlots]
end Go.Sh
