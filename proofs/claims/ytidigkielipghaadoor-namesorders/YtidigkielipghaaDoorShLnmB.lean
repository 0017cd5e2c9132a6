/- object.names, object.cut, object.relocs. -/
import Derived.Test.YtidigkielipghaaDoorShLnmA
set_option linter.unusedVariables false
set_option linter.unusedSimpArgs false
set_option linter.unusedSectionVars false
namespace Go.Sh
def namesO (o : ObS) : List Byt8 := o.fn.map FnS.nm ++ o.tb.map TbS.nm ++ o.ex
theorem txC_len (l : List Byt8) : (l.map txC).flatten.length = l.length := by
  induction l with
  | nil => rfl
  | cons a r ih => simp only [List.map_cons, List.flatten_cons, List.length_append, ih, txC1, List.length_cons]; omega
section
variable {pr : Prog} (hp : Sub objFns pr) {st : St}
include hp
theorem den_names (o : ObS) (h1 : o.fn.length ≤ 1024) (h2 : o.tb.length ≤ 1024) (h3 : o.ex.length ≤ 1024) : den pr 338 [.agg o.vs] st = some (dsl txC (decide (0 < (namesO o).length)) (namesO o), st) := by
  refine den_shut (hp.at 2 rfl) rfl rfl (by simp [o.close]; rfl) ?_
  have hu1 := dsl_d FnS.c4 o.n2 o.fn
  have hu2 := dsl_d TbS.c5 o.n3 o.tb
  obtain ⟨u0, hu0⟩ : ∃ u, u = dsl Ins.cells o.n1 o.tx := ⟨_, rfl⟩
  obtain ⟨u1, huv1⟩ : ∃ u, u = dsl FnS.cells o.n2 o.fn := ⟨_, rfl⟩
  obtain ⟨u2, huv2⟩ : ∃ u, u = dsl TbS.cells o.n3 o.tb := ⟨_, rfl⟩
  obtain ⟨u4, hu4⟩ : ∃ u, u = dsl RlS.cells o.n5 o.rl := ⟨_, rfl⟩
  have hl1 := hu1.len
  have hl2 := hu2.len
  rw [List.length_map] at hl1 hl2
  rw [← huv1] at hu1 hl1
  rw [← huv2] at hu2 hl2
  simp [F338_object_names, ObS.vs, ← hu0, ← huv1, ← huv2, ← hu4, hl1]
  obtain ⟨C, hC⟩ : ∃ C : Nat → List D, ∀ i, C i = (((o.fn.take i).map FnS.nm).map txC).flatten := ⟨_, fun _ => rfl⟩
  have hC0 : C 0 = [] := by simp [hC]
  have hcl : ∀ i, i ≤ o.fn.length → (C i).length = i := fun i hi => by rw [hC, txC_len, List.length_map, List.length_take]; omega
  generalize hL : cden pr (.loop _ _ F338_object_names_b0) _ _ = q
  obtain ⟨r, rfl, hQ⟩ : ∃ r, q = some r ∧ ∃ e, r = (.exit 0, e, s0 [.row [u0, u1, u2, dsl txC o.n4 o.ex, u4]] [o.fn.length] 0 0) ∧ e.get 1 = some (.ptr 0 0) ∧ e.get 3 = some (.own 1 o.fn.length (decide (0 < o.fn.length)) (C o.fn.length) 0) := by
    rw [← hL]
    clear hL
    refine loop_n o.fn.length (fun i => [(1, .ptr 0 0), (3, .own 1 i (decide (0 < i)) (C i) 0), (9, u1), (10, .d (.i .i64 o.fn.length)), (11, .d (.i .i64 i))]) (fun i => s0 [.row [u0, u1, u2, dsl txC o.n4 o.ex, u4]] [i] 0 0) ?_ (by simp [hC0]) (by simp)
    intro i hi
    rcases Nat.lt_or_ge i o.fn.length with h | h
    · obtain ⟨x, hx⟩ : ∃ x, o.fn[i]? = some x := ⟨_, List.getElem?_eq_getElem h⟩
      have hn1 : IntKind.wrap .i64 ((i : Int) + 1) = i + 1 := wrap_i64 (by omega) (by omega)
      have hia := hu1.iaddr (i := (i : Int)) (k := .i64) (by omega) (by simp; omega)
      simp only [Int.toNat_natCast] at hia
      have hld : ∀ st, loadV 4 true st (elP 4 u1 i 0) = some (.agg (ofDs x.cells)) := fun st => by
        rw [hu1.load (el := x.cells) (by simp [hx]) (by omega) (by omega)]
        rfl
      have hb1 : (i + 1) * 16 ≤ 140737488355328 := by omega
      have hb2 : i + 1 ≤ 140737488355328 := by omega
      have hC1 : C (i + 1) = C i ++ [.s x.nm] := by rw [hC, hC, List.take_add_one, hx]; simp [txC]
      have hci := hcl i hi
      simp [F338_object_names_b0, h, hn1, hia, hld, hu1.esc, FnS.cells, ofDs, lay, fillV, reps, toDs, toD, appV, vw, hb1, hb2, hC1, hci]
    · obtain rfl : i = o.fn.length := by omega
      simp [F338_object_names_b0, hu1.esc]
  obtain ⟨e, rfl, he1, he3⟩ := hQ
  simp [he1, he3, hl2]
  obtain ⟨C', hC'⟩ : ∃ C' : Nat → List D, ∀ i, C' i = ((o.fn.map FnS.nm ++ (o.tb.take i).map TbS.nm).map txC).flatten := ⟨_, fun _ => rfl⟩
  have hC0' : C' 0 = C o.fn.length := by simp [hC, hC']
  have hcl' : ∀ i, i ≤ o.tb.length → (C' i).length = o.fn.length + i := fun i hi => by rw [hC', txC_len]; simp; omega
  generalize hL : cden pr (.loop _ _ F338_object_names_b1) _ _ = q
  obtain ⟨r, rfl, hQ⟩ : ∃ r, q = some r ∧ ∃ e, r = (.exit 2, e, s0 [.row [u0, u1, u2, dsl txC o.n4 o.ex, u4]] [o.fn.length + o.tb.length] 0 0) ∧ e.get 1 = some (.ptr 0 0) ∧ e.get 3 = some (.own 1 (o.fn.length + o.tb.length) (decide (0 < o.fn.length + o.tb.length)) (C' o.tb.length) 0) := by
    rw [← hL]
    clear hL
    refine loop_n o.tb.length (fun i => [(1, .ptr 0 0), (3, .own 1 (o.fn.length + i) (decide (0 < o.fn.length + i)) (C' i) 0), (22, u2), (23, .d (.i .i64 o.tb.length)), (24, .d (.i .i64 i))]) (fun i => s0 [.row [u0, u1, u2, dsl txC o.n4 o.ex, u4]] [o.fn.length + i] 0 0) ?_ (by simp [hC0']) (by simp)
    intro i hi
    rcases Nat.lt_or_ge i o.tb.length with h | h
    · obtain ⟨x, hx⟩ : ∃ x, o.tb[i]? = some x := ⟨_, List.getElem?_eq_getElem h⟩
      have hn1 : IntKind.wrap .i64 ((i : Int) + 1) = i + 1 := wrap_i64 (by omega) (by omega)
      have hia := hu2.iaddr (i := (i : Int)) (k := .i64) (by omega) (by simp; omega)
      simp only [Int.toNat_natCast] at hia
      have hld : ∀ st, loadV 5 true st (elP 5 u2 i 0) = some (.agg (ofDs x.cells)) := fun st => by
        rw [hu2.load (el := x.cells) (by simp [hx]) (by omega) (by omega)]
        rfl
      obtain ⟨k, hk⟩ : ∃ k, k = o.fn.length + i := ⟨_, rfl⟩
      have hk1 : o.fn.length + (i + 1) = k + 1 := by omega
      have hb1 : (k + 1) * 16 ≤ 140737488355328 := by omega
      have hb2 : k + 1 ≤ 140737488355328 := by omega
      have hC1 : C' (i + 1) = C' i ++ [.s x.nm] := by rw [hC', hC', List.take_add_one, hx]; simp [txC]
      have hci := hcl' i hi
      rw [← hk] at hci
      simp only [hk1, ← hk]
      simp [F338_object_names_b1, h, hn1, hia, hld, hu2.esc, TbS.cells, ofDs, lay, fillV, reps, toDs, toD, appV, vw, hb1, hb2, hC1, hci]
      rw [hk1]
      exact ⟨⟨rfl, by omega⟩, rfl⟩
    · obtain rfl : i = o.tb.length := by omega
      simp [F338_object_names_b1, hu2.esc]
  obtain ⟨e, rfl, he1, he3⟩ := hQ
  have hcf := hcl' _ (Nat.le_refl _)
  have hb1 : (o.fn.length + o.tb.length + o.ex.length) * 16 ≤ 140737488355328 := by omega
  have hb2 : o.fn.length + o.tb.length + o.ex.length ≤ 140737488355328 := by omega
  have hvw := fun st => dsl_vw txC o.n4 o.ex 1 st
  have hex := txC_len o.ex
  have hC2 : C' o.tb.length ++ (o.ex.map txC).flatten = ((namesO o).map txC).flatten := by rw [hC', List.take_of_length_le (Nat.le_refl _)]; simp [namesO]
  have hnl : (namesO o).length = o.fn.length + o.tb.length + o.ex.length := by simp [namesO]; omega
  obtain ⟨N, hN⟩ : ∃ N, N = o.fn.length + o.tb.length := ⟨_, rfl⟩
  rw [← hN] at hcf hb1 hb2 hnl he3 
  simp only [← hN]
  have hd : (decide (0 < N) || decide (0 < N + o.ex.length)) = decide (0 < N + o.ex.length) := by
    by_cases h : 0 < N
    · have : 0 < N + o.ex.length := by omega
      simp [h, this]
    · simp [h]
  have hfin : dsl txC (decide (0 < (namesO o).length)) (namesO o) = .d (.sl (N + o.ex.length) (decide (0 < N + o.ex.length)) ((namesO o).map txC).flatten) := by rw [← hnl]; rfl
  rw [hfin]
  clear hfin
  generalize (o.ex.map txC).flatten = E at hvw hex hC2
  generalize ((namesO o).map txC).flatten = G at hC2 ⊢
  simp [he1, he3, appV, hvw, hcf, hb1, hb2, hex, hC2]
  omega
theorem den_cut (o : ObS) (ho : o.ok) : ∃ k : Int, ∀ st, den pr 340 [.agg o.vs] st = some (.d (.i .i64 k), st) := by
  obtain ⟨k, hk⟩ : ∃ k : Int, finish F340_object_cut st0 (cden pr F340_object_cut.body (initE 0 [.agg o.vs]) (start F340_object_cut st0)) = some (.d (.i .i64 k), st0) := by
    have hu1 := dsl_d FnS.c4 o.n2 o.fn
    have hu0 := dsl_d insC o.n1 o.tx
    obtain ⟨u0, huv0⟩ : ∃ u, u = dsl Ins.cells o.n1 o.tx := ⟨_, rfl⟩
    obtain ⟨u1, huv1⟩ : ∃ u, u = dsl FnS.cells o.n2 o.fn := ⟨_, rfl⟩
    obtain ⟨u2, huv2⟩ : ∃ u, u = dsl TbS.cells o.n3 o.tb := ⟨_, rfl⟩
    obtain ⟨u3, huv3⟩ : ∃ u, u = dsl txC o.n4 o.ex := ⟨_, rfl⟩
    obtain ⟨u4, hu4⟩ : ∃ u, u = dsl RlS.cells o.n5 o.rl := ⟨_, rfl⟩
    have hl0 := hu0.len
    have hl1 := hu1.len
    rw [List.length_map] at hl1 hl0
    rw [← huv0] at hu0 hl0
    rw [← huv1] at hu1 hl1
    simp [F340_object_cut, ObS.vs, ← huv0, ← huv1, ← huv2, ← huv3, ← hu4, hl1]
    generalize hL : cden pr (.loop _ _ F340_object_cut_b0) _ _ = q
    obtain ⟨r, rfl, hQ⟩ : ∃ r, q = some r ∧ ((∃ e a, r = (.exit 0, e, s0 [.row [u0, u1, u2, u3, u4]] [] 0 0) ∧ e.get 1 = some (.ptr 0 0) ∧ e.get 3 = some (.d (.i .i64 a))) ∨ (∃ e a, r = (.ret, e, s0 [.row [u0, u1, u2, u3, u4]] [] 0 0) ∧ e.get 2 = some (.d (.i .i64 a)))) := by
      rw [← hL]
      clear hL
      refine loop_j (fun n e s => ∃ i a, n = o.fn.length - i ∧ i ≤ o.fn.length ∧ e = [(1, .ptr 0 0), (3, .d (.i .i64 a)), (7, u1), (8, .d (.i .i64 o.fn.length)), (9, .d (.i .i64 (i : Nat)))] ∧ s = s0 [.row [u0, u1, u2, u3, u4]] [] 0 0) ?_ (n := o.fn.length) ⟨0, 0, by omega, by omega, by simp, by simp⟩
      rintro n e s ⟨i, a, rfl, hi, rfl, rfl⟩
      rcases Nat.lt_or_ge i o.fn.length with h | h
      · obtain ⟨x, hx⟩ : ∃ x, o.fn[i]? = some x := ⟨_, List.getElem?_eq_getElem h⟩
        have := ho.fn
        have hn1 : IntKind.wrap .i64 ((i : Int) + 1) = i + 1 := wrap_i64 (by omega) (by omega)
        have hia := hu1.iaddr (i := (i : Int)) (k := .i64) (by omega) (by simp; omega)
        simp only [Int.toNat_natCast] at hia
        have hld : ∀ st, loadV 4 true st (elP 4 u1 i 0) = some (.agg (ofDs x.cells)) := fun st => by
          rw [hu1.load (el := x.cells) (by simp [hx]) (by omega) (by omega)]
          rfl
        obtain ⟨w, hw⟩ : ∃ w, w = IntKind.wrap .i64 ((o.tx.length : Int) - a) := ⟨_, rfl⟩
        have hlt : o.fn.length - (i + 1) < o.fn.length - i := by omega
        by_cases c1 : x.fi = a
        · by_cases c2 : x.co < 1
          · simp [F340_object_cut_b0, h, hn1, hia, hld, hu1.esc, FnS.cells, ofDs, lay, c1, c2]
          · by_cases c3 : w < x.co
            · simp [F340_object_cut_b0, h, hn1, hia, hld, hu1.esc, FnS.cells, ofDs, lay, c1, c2, hl0, ← hw, c3]
            · simp [F340_object_cut_b0, h, hn1, hia, hld, hu1.esc, FnS.cells, ofDs, lay, c1, c2, hl0, ← hw, c3]
              exact ⟨_, hlt, i + 1, rfl, h, rfl⟩
        · simp [F340_object_cut_b0, h, hn1, hia, hld, hu1.esc, FnS.cells, ofDs, lay, c1]
      · obtain rfl : i = o.fn.length := by omega
        simp [F340_object_cut_b0, hu1.esc]
    rcases hQ with ⟨e, a, rfl, he1, he3⟩ | ⟨e, a, rfl, he2⟩
    · by_cases c : a < (o.tx.length : Int)
      · simp [he1, he3, hl0, hl1, c]
      · simp [he1, he3, hl0, hl1, c]
    · simp [he2]
  exact ⟨k, fun st => den_shut (hp.at 4 rfl) rfl rfl (by simp [o.close]) hk⟩
theorem den_relocs (o : ObS) (ho : o.ok) : ∃ k : Int, ∀ st, den pr 343 [.agg o.vs] st = some (.d (.i .i64 k), st) := by
  obtain ⟨k, hk⟩ : ∃ k : Int, finish F343_object_relocs st0 (cden pr F343_object_relocs.body (initE 0 [.agg o.vs]) (start F343_object_relocs st0)) = some (.d (.i .i64 k), st0) := by
    have hu1 := dsl_d FnS.c4 o.n2 o.fn
    have hu0 := dsl_d insC o.n1 o.tx
    have hu2 := dsl_d TbS.c5 o.n3 o.tb
    have hu3 := dsl_d txC1 o.n4 o.ex
    have hu4 := dsl_d RlS.c3 o.n5 o.rl
    obtain ⟨u0, huv0⟩ : ∃ u, u = dsl Ins.cells o.n1 o.tx := ⟨_, rfl⟩
    obtain ⟨u1, huv1⟩ : ∃ u, u = dsl FnS.cells o.n2 o.fn := ⟨_, rfl⟩
    obtain ⟨u2, huv2⟩ : ∃ u, u = dsl TbS.cells o.n3 o.tb := ⟨_, rfl⟩
    obtain ⟨u3, huv3⟩ : ∃ u, u = dsl txC o.n4 o.ex := ⟨_, rfl⟩
    obtain ⟨u4, huv4⟩ : ∃ u, u = dsl RlS.cells o.n5 o.rl := ⟨_, rfl⟩
    have hl0 := hu0.len
    have hl1 := hu1.len
    have hl2 := hu2.len
    have hl3 := hu3.len
    have hl4 := hu4.len
    rw [List.length_map] at hl0 hl1 hl2 hl3 hl4
    rw [← huv0] at hu0 hl0
    rw [← huv1] at hu1 hl1
    rw [← huv2] at hu2 hl2
    rw [← huv3] at hu3 hl3
    rw [← huv4] at hu4 hl4
    simp [F343_object_relocs, ObS.vs, ← huv0, ← huv1, ← huv2, ← huv3, ← huv4, hl0]
    generalize hL : cden pr (.loop _ _ F343_object_relocs_b0) _ _ = q
    obtain ⟨r, rfl, hQ⟩ : ∃ r, q = some r ∧ ((∃ e a, r = (.exit 0, e, s0 [.row [u0, u1, u2, u3, u4]] [] 0 0) ∧ e.get 1 = some (.ptr 0 0) ∧ e.get 3 = some (.d (.i .i64 a))) ∨ (∃ e a, r = (.ret, e, s0 [.row [u0, u1, u2, u3, u4]] [] 0 0) ∧ e.get 2 = some (.d (.i .i64 a)))) := by
      rw [← hL]
      clear hL
      refine loop_j (fun n e s => ∃ i a : Nat, n = o.tx.length - i ∧ i ≤ o.tx.length ∧ a ≤ o.rl.length ∧ e = [(1, .ptr 0 0), (3, .d (.i .i64 a)), (10, u0), (11, .d (.i .i64 o.tx.length)), (12, .d (.i .i64 (i : Nat)))] ∧ s = s0 [.row [u0, u1, u2, u3, u4]] [] 0 0) ?_ (n := o.tx.length) ⟨0, 0, by omega, by omega, by omega, by simp, by simp⟩
      rintro n e s ⟨i, a, rfl, hi, ha, rfl, rfl⟩
      rcases Nat.lt_or_ge i o.tx.length with h | h
      · obtain ⟨x, hx⟩ : ∃ x, o.tx[i]? = some x := ⟨_, List.getElem?_eq_getElem h⟩
        have b0 := ho.tx
        have b1 := ho.fn
        have b3 := ho.ex
        have b4 := ho.rl
        have hn1 : IntKind.wrap .i64 ((i : Int) + 1) = i + 1 := wrap_i64 (by omega) (by omega)
        have hna : IntKind.wrap .i64 ((a : Int) + 1) = a + 1 := wrap_i64 (by omega) (by omega)
        have hia := hu0.iaddr (i := (i : Int)) (k := .i64) (by omega) (by simp; omega)
        simp only [Int.toNat_natCast] at hia
        have hld : ∀ st, loadV 5 true st (elP 5 u0 i 0) = some (.agg (ofDs x.cells)) := fun st => by
          rw [hu0.load (el := x.cells) (by simp [hx]) (by omega) (by omega)]
          rfl
        have hs := fun st => den_site hp (st := st) x
        obtain ⟨k, hkk⟩ : ∃ k, k = siteI x := ⟨_, rfl⟩
        rw [← hkk] at hs
        clear hkk
        have hlt : o.tx.length - (i + 1) < o.tx.length - i := by omega
        obtain ⟨c0, hc0⟩ : ∃ c, ofDs x.cells = c ∧ c.length = 5 := ⟨_, rfl, rfl⟩
        obtain ⟨q0, q1, q2, q3, q4, rfl⟩ : ∃ q0 q1 q2 q3 q4, c0 = [q0, q1, q2, q3, q4] := by
          match c0, hc0.2 with
          | [a, b, c, d, e], _ => exact ⟨a, b, c, d, e, rfl⟩
        rw [hc0.1] at hld hs
        obtain ⟨w, hw⟩ : ∃ w, w = IntKind.wrap .i64 ((o.fn.length : Int) + o.ex.length) := ⟨_, rfl⟩
        by_cases c1 : k = 0
        · simp [F343_object_relocs_b0, h, hn1, hia, hld, hu0.esc, lay, ofDs, hs, c1]
          exact ⟨_, hlt, i + 1, rfl, h, a, ha, by simp, rfl⟩
        · by_cases c2 : a = o.rl.length
          · have c2' : (a : Int) = o.rl.length := by omega
            simp [F343_object_relocs_b0, h, hn1, hia, hld, hu0.esc, lay, ofDs, hs, c1, hl4, c2]
          · have c2' : ¬ (a : Int) = o.rl.length := by omega
            obtain ⟨y, hy⟩ : ∃ y, o.rl[a]? = some y := ⟨_, List.getElem?_eq_getElem (by omega)⟩
            have hia4 := hu4.iaddr (i := (a : Int)) (k := .i64) (by omega) (by simp; omega)
            simp only [Int.toNat_natCast] at hia4
            have hld4 : ∀ st, loadV 3 true st (elP 3 u4 a 0) = some (.agg (ofDs y.cells)) := fun st => by
              rw [hu4.load (el := y.cells) (by simp [hy]) (by omega) (by omega)]
              rfl
            by_cases c3 : k = 2
            · by_cases d1 : y.at' = i
              · by_cases d2 : y.kind = 2
                · by_cases d3 : y.name < 0
                  · simp [F343_object_relocs_b0, h, hn1, hia, hld, hu0.esc, lay, hs, c1, hl4, hl2, hl1, hl3, c2, c2', c3, hia4, hld4, RlS.cells, ofDs, d1, d2, d3]
                  · by_cases d4 : w ≤ y.name
                    · simp [F343_object_relocs_b0, h, hn1, hia, hld, hu0.esc, lay, hs, c1, hl4, hl2, hl1, hl3, c2, c2', c3, hia4, hld4, RlS.cells, ofDs, d1, d2, d3, ← hw, d4]
                    · simp [F343_object_relocs_b0, h, hn1, hna, hia, hld, hu0.esc, lay, hs, c1, hl4, hl2, hl1, hl3, c2, c2', c3, hia4, hld4, RlS.cells, ofDs, d1, d2, d3, ← hw, d4]
                      exact ⟨_, hlt, i + 1, rfl, h, a + 1, by omega, by simp, rfl⟩
                · simp [F343_object_relocs_b0, h, hn1, hia, hld, hu0.esc, lay, hs, c1, hl4, hl2, hl1, hl3, c2, c2', c3, hia4, hld4, RlS.cells, ofDs, d1, d2]
              · simp [F343_object_relocs_b0, h, hn1, hia, hld, hu0.esc, lay, hs, c1, hl4, hl2, hl1, hl3, c2, c2', c3, hia4, hld4, RlS.cells, ofDs, d1]
            · by_cases d1 : y.at' = i
              · by_cases d2 : y.kind = k
                · by_cases d3 : y.name < 0
                  · simp [F343_object_relocs_b0, h, hn1, hia, hld, hu0.esc, lay, hs, c1, hl4, hl2, hl1, hl3, c2, c2', c3, hia4, hld4, RlS.cells, ofDs, d1, d2, d3]
                  · by_cases d4 : (o.tb.length : Int) ≤ y.name
                    · simp [F343_object_relocs_b0, h, hn1, hia, hld, hu0.esc, lay, hs, c1, hl4, hl2, hl1, hl3, c2, c2', c3, hia4, hld4, RlS.cells, ofDs, d1, d2, d3, d4]
                    · simp [F343_object_relocs_b0, h, hn1, hna, hia, hld, hu0.esc, lay, hs, c1, hl4, hl2, hl1, hl3, c2, c2', c3, hia4, hld4, RlS.cells, ofDs, d1, d2, d3, d4]
                      exact ⟨_, hlt, i + 1, rfl, h, a + 1, by omega, by simp, rfl⟩
                · simp [F343_object_relocs_b0, h, hn1, hia, hld, hu0.esc, lay, hs, c1, hl4, hl2, hl1, hl3, c2, c2', c3, hia4, hld4, RlS.cells, ofDs, d1, d2]
              · simp [F343_object_relocs_b0, h, hn1, hia, hld, hu0.esc, lay, hs, c1, hl4, hl2, hl1, hl3, c2, c2', c3, hia4, hld4, RlS.cells, ofDs, d1]
      · obtain rfl : i = o.tx.length := by omega
        simp [F343_object_relocs_b0, hu0.esc]
    rcases hQ with ⟨e, a, rfl, he1, he3⟩ | ⟨e, a, rfl, he2⟩
    · by_cases c : a < (o.rl.length : Int)
      · simp [he1, he3, hl4, c]
      · simp [he1, he3, hl4, c]
    · simp [he2]
  exact ⟨k, fun st => den_shut (hp.at 7 rfl) rfl rfl (by simp [o.close]) hk⟩
end
end Go.Sh
