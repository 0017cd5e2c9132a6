/- object.Check: some function of the object's data; where it is content, what there is is not too much. -/
import Derived.Test.YtidigkielipghaaDoorShLnmB
import Derived.Test.YtidigkielipghaaDoorShBb
set_option linter.unusedVariables false
set_option linter.unusedSimpArgs false
set_option linter.unusedSectionVars false
namespace Go.Sh
/-- Names that were seen, with their places. -/
def seenE (ns : List Byt8) : List (D × V) := ns.zipIdx.map fun x => (.s x.1, .d (.i .i64 x.2))
theorem find_seen (s : Byt8) : ∀ (ns : List Byt8) (k : Nat), findE (.s s) ((ns.zipIdx k).map fun x => (D.s x.1, V.d (.i .i64 x.2))) = some (if s ∈ ns then some (.d (.i .i64 ((k + ns.idxOf s : Nat) : Int))) else none)
  | [], k => by simp [findE]
  | n :: r, k => by
    rw [List.zipIdx_cons, List.map_cons, findE]
    by_cases h : s = n
    · subst h
      simp [eqD]
    · have h' : (s == n) = false := by simpa using h
      have hn : (n == s) = false := by simpa using fun e => h e.symm
      simp only [eqD, h', find_seen s r (k + 1)]
      by_cases hm : s ∈ r
      · simp [h, hm, List.idxOf_cons, hn]
        omega
      · simp [h, hm]
theorem set_seen (s : Byt8) (v : V) : ∀ (ns : List Byt8) (k : Nat), s ∉ ns → setE (.s s) v ((ns.zipIdx k).map fun x => (D.s x.1, V.d (.i .i64 x.2))) = some ((ns.zipIdx k).map (fun x => (D.s x.1, V.d (.i .i64 x.2))) ++ [(.s s, v)])
  | [], k, _ => by simp [setE]
  | n :: r, k, h => by
    rw [List.mem_cons, not_or] at h
    have h' : (s == n) = false := by simpa using h.1
    rw [List.zipIdx_cons, List.map_cons, setE]
    simp [eqD, h', set_seen s v r (k + 1) h.2]
theorem seen_snoc (ns : List Byt8) (s : Byt8) : seenE (ns ++ [s]) = seenE ns ++ [(.s s, .d (.i .i64 (ns.length : Int)))] := by
  unfold seenE
  rw [List.zipIdx_append, List.map_append]
  simp
section
variable {pr : Prog} (hp : Sub objFns pr) {st : St}
include hp
set_option maxHeartbeats 4000000 in
theorem den_check (hq : Sub slFns pr) (hI : IsaOk pr) (o : ObS) (ho : o.ok) (hs : ∀ s ∈ namesO o, s.length ≤ 9223372036854775807) : ∃ k e : Int, (∀ st, den pr 330 [.agg o.vs] st = some (.tup [.d (.i .i64 k), .d (.i .i64 e)], st)) ∧ (e = 0 → slotsOf o.tx ≤ 65536 ∧ o.fn.length ≤ 1024 ∧ o.tb.length ≤ 1024 ∧ o.ex.length ≤ 1024) := by
  obtain ⟨k, e, hk, hb⟩ : ∃ k e : Int, finish F330_object_Check st0 (cden pr F330_object_Check.body (initE 0 [.agg o.vs]) (start F330_object_Check st0)) = some (.tup [.d (.i .i64 k), .d (.i .i64 e)], st0) ∧ (e = 0 → slotsOf o.tx ≤ 65536 ∧ o.fn.length ≤ 1024 ∧ o.tb.length ≤ 1024 ∧ o.ex.length ≤ 1024) := by
    obtain ⟨mk, hmk, hmb⟩ := den_many hp hq o ho
    obtain ⟨ck, hck⟩ := den_cut hp o ho
    obtain ⟨rk, hrk⟩ := den_relocs hp o ho
    have hu0 := dsl_d insC o.n1 o.tx
    have hu2 := dsl_d TbS.c5 o.n3 o.tb
    have hnm := fun st => den_names hp (st := st) o
    obtain ⟨u0, huv0⟩ : ∃ u, u = dsl Ins.cells o.n1 o.tx := ⟨_, rfl⟩
    obtain ⟨u1, huv1⟩ : ∃ u, u = dsl FnS.cells o.n2 o.fn := ⟨_, rfl⟩
    obtain ⟨u2, huv2⟩ : ∃ u, u = dsl TbS.cells o.n3 o.tb := ⟨_, rfl⟩
    obtain ⟨u3, huv3⟩ : ∃ u, u = dsl txC o.n4 o.ex := ⟨_, rfl⟩
    obtain ⟨u4, huv4⟩ : ∃ u, u = dsl RlS.cells o.n5 o.rl := ⟨_, rfl⟩
    have hl0 := hu0.len
    have hl2 := hu2.len
    rw [List.length_map] at hl0 hl2
    rw [← huv0] at hu0 hl0
    rw [← huv2] at hu2 hl2
    simp only [ObS.vs, ← huv0, ← huv1, ← huv2, ← huv3, ← huv4] at hmk hck hrk hnm ⊢
    by_cases cm : 0 ≤ mk
    · refine ⟨mk, 121, ?_, fun h => by omega⟩
      simp [F330_object_Check, hmk, cm]
    · have hb := hmb (by omega)
      have hnm := fun st => hnm st hb.2.1 hb.2.2.1 hb.2.2.2
      have hu5 := dsl_d txC1 (decide (0 < (namesO o).length)) (namesO o)
      have hnl : (namesO o).length ≤ 3072 := by simp [namesO]; omega
      obtain ⟨N, hN⟩ : ∃ N, N = namesO o := ⟨_, rfl⟩
      rw [← hN] at hnm hu5 hnl hs
      clear hN
      obtain ⟨u5, huv5⟩ : ∃ u, u = dsl txC (decide (0 < N.length)) N := ⟨_, rfl⟩
      have hl5 := hu5.len
      rw [List.length_map] at hl5
      rw [← huv5] at hnm hu5 hl5
      clear huv5
      have hld5 : ∀ (i : Nat) (s : Byt8), N[i]? = some s → ∀ st, loadV 1 false st (elP 1 u5 i 0) = some (.d (.s s)) := fun i s hx st => by
        rw [hu5.load (el := txC s) (by simp [hx]) (by omega) (by omega)]
        rfl
      suffices h : ∃ k e : Int, finish F330_object_Check st0 (cden pr F330_object_Check.body (initE 0 [.agg [u0, u1, u2, u3, u4]]) (start F330_object_Check st0)) = some (.tup [.d (.i .i64 k), .d (.i .i64 e)], st0) by
        obtain ⟨k, e, h⟩ := h
        exact ⟨k, e, h, fun _ => hb⟩
      simp [F330_object_Check, hmk, cm, hnm, hl5]
      generalize hL : cden pr (.loop _ _ F330_object_Check_b0) _ _ = q
      obtain ⟨r, rfl, hQ⟩ : ∃ r, q = some r ∧ ((∃ e, r = (.exit 0, e, s0 [.row [u0, u1, u2, u3, u4]] [] 0 0) ∧ e.get 1 = some (.ptr 0 0) ∧ e.get 5 = some u5) ∨ (∃ e s a b, r = (.ret, e, s) ∧ e.get 2 = some (.d (.i .i64 a)) ∧ e.get 3 = some (.d (.i .i64 b)))) := by
        rw [← hL]
        clear hL
        refine loop_n N.length (fun i => [(1, .ptr 0 0), (5, u5), (26, u5), (27, .d (.i .i64 N.length)), (28, .d (.i .i64 i))]) (fun i => s0 [.row [u0, u1, u2, u3, u4]] [] 0 0) ?_ (by simp) (by simp)
        intro i hi
        rcases Nat.lt_or_ge i N.length with h | h
        · obtain ⟨x, hx⟩ : ∃ x, N[i]? = some x := ⟨_, List.getElem?_eq_getElem h⟩
          have hn1 : IntKind.wrap .i64 ((i : Int) + 1) = i + 1 := wrap_i64 (by omega) (by omega)
          have hia := hu5.iaddr (i := (i : Int)) (k := .i64) (by omega) (by simp; omega)
          simp only [Int.toNat_natCast] at hia
          have hld := hld5 i x hx
          obtain ⟨b, hnd⟩ := den_named hp x (hs x (List.mem_of_getElem? hx))
          cases b <;> simp [F330_object_Check_b0, h, hn1, hia, hld, hnd]
        · obtain rfl : i = N.length := by omega
          simp [F330_object_Check_b0]
      rcases hQ with ⟨e, rfl, he1, he5⟩ | ⟨e, s, a, b, rfl, he2, he3⟩
      rotate_left
      · simp [he2, he3]
      simp [he1, he5, hl5]
      generalize hL : cden pr (.loop _ _ F330_object_Check_b1) _ _ = q
      obtain ⟨r, rfl, hQ⟩ : ∃ r, q = some r ∧ ((∃ e M, r = (.exit 2, e, s0 [.row [u0, u1, u2, u3, u4], .map M] [] 0 0) ∧ e.get 1 = some (.ptr 0 0)) ∨ (∃ e s a b, r = (.ret, e, s) ∧ e.get 2 = some (.d (.i .i64 a)) ∧ e.get 3 = some (.d (.i .i64 b)))) := by
        rw [← hL]
        clear hL
        refine loop_n N.length (fun i => [(1, .ptr 0 0), (8, .map 1), (39, u5), (40, .d (.i .i64 N.length)), (41, .d (.i .i64 i))]) (fun i => s0 [.row [u0, u1, u2, u3, u4], .map (seenE (N.take i))] [] 0 0) ?_ (by simp) (by simp [seenE])
        intro i hi
        rcases Nat.lt_or_ge i N.length with h | h
        · obtain ⟨x, hx⟩ : ∃ x, N[i]? = some x := ⟨_, List.getElem?_eq_getElem h⟩
          have hn1 : IntKind.wrap .i64 ((i : Int) + 1) = i + 1 := wrap_i64 (by omega) (by omega)
          have hia := hu5.iaddr (i := (i : Int)) (k := .i64) (by omega) (by simp; omega)
          simp only [Int.toNat_natCast] at hia
          have hld := hld5 i x hx
          have hf := find_seen x (N.take i) 0
          rw [show (((N.take i).zipIdx 0).map fun x => (D.s x.1, V.d (.i .i64 x.2))) = seenE (N.take i) from rfl] at hf
          by_cases hm : x ∈ N.take i
          · rw [if_pos hm] at hf
            generalize (((0 + (N.take i).idxOf x : Nat)) : Int) = y at hf
            simp [F330_object_Check_b1, h, hn1, hia, hld, lookV, keyOk, hf, lookOut, zeroV]
          · rw [if_neg hm] at hf
            have hset := set_seen x (.d (.i .i64 (i : Int))) (N.take i) 0 hm
            rw [show (((N.take i).zipIdx 0).map fun x => (D.s x.1, V.d (.i .i64 x.2))) = seenE (N.take i) from rfl] at hset
            have hsn : seenE (N.take (i + 1)) = seenE (N.take i) ++ [(.s x, .d (.i .i64 (i : Int)))] := by
              rw [List.take_add_one, hx, Option.toList_some, seen_snoc, List.length_take, Nat.min_eq_left hi]
            simp [F330_object_Check_b1, h, hn1, hia, hld, lookV, keyOk, hf, lookOut, zeroV, mapSetV, hset, hsn]
        · obtain rfl : i = N.length := by omega
          simp [F330_object_Check_b1]
          exact ⟨_, ⟨rfl, _, rfl⟩, rfl⟩
      rcases hQ with ⟨e, M, rfl, he1⟩ | ⟨e, s, a, b, rfl, he2, he3⟩
      rotate_left
      · simp [he2, he3]
      by_cases cc : 0 ≤ ck
      · simp [he1, hck, cc]
      simp [he1, hck, cc, hl2]
      generalize hL : cden pr (.loop _ _ F330_object_Check_b2) _ _ = q
      obtain ⟨r, rfl, hQ⟩ : ∃ r, q = some r ∧ ((∃ e, r = (.exit 4, e, s0 [.row [u0, u1, u2, u3, u4], .map M] [] 0 0) ∧ e.get 1 = some (.ptr 0 0)) ∨ (∃ e s a b, r = (.ret, e, s) ∧ e.get 2 = some (.d (.i .i64 a)) ∧ e.get 3 = some (.d (.i .i64 b)))) := by
        rw [← hL]
        clear hL
        refine loop_n o.tb.length (fun i => [(1, .ptr 0 0), (64, u2), (65, .d (.i .i64 o.tb.length)), (66, .d (.i .i64 i))]) (fun i => s0 [.row [u0, u1, u2, u3, u4], .map M] [] 0 0) ?_ (by simp) (by simp)
        intro i hi
        rcases Nat.lt_or_ge i o.tb.length with h | h
        · obtain ⟨x, hx⟩ : ∃ x, o.tb[i]? = some x := ⟨_, List.getElem?_eq_getElem h⟩
          have hn1 : IntKind.wrap .i64 ((i : Int) + 1) = i + 1 := wrap_i64 (by omega) (by omega)
          have hia := hu2.iaddr (i := (i : Int)) (k := .i64) (by omega) (by simp; omega)
          simp only [Int.toNat_natCast] at hia
          have hld : ∀ st, loadV 5 true st (elP 5 u2 i 0) = some (.agg (ofDs x.cells)) := fun st => by
            rw [hu2.load (el := x.cells) (by simp [hx]) (by omega) (by omega)]
            rfl
          obtain ⟨b, hnd⟩ := den_tab hp x
          obtain ⟨q0, q1, q2, q3, q4, hq⟩ : ∃ q0 q1 q2 q3 q4, ofDs x.cells = [q0, q1, q2, q3, q4] := ⟨_, _, _, _, _, rfl⟩
          rw [hq] at hld hnd
          cases b <;> simp [F330_object_Check_b2, h, hn1, hia, hld, hnd, lay, ofDs, hu2.esc]
        · obtain rfl : i = o.tb.length := by omega
          simp [F330_object_Check_b2, hu2.esc]
      rcases hQ with ⟨e, rfl, he1⟩ | ⟨e, s, a, b, rfl, he2, he3⟩
      rotate_left
      · simp [he2, he3]
      simp [he1, hl0]
      generalize hL : cden pr (.loop _ _ F330_object_Check_b3) _ _ = q
      obtain ⟨r, rfl, hQ⟩ : ∃ r, q = some r ∧ ((∃ e, r = (.exit 6, e, s0 [.row [u0, u1, u2, u3, u4], .map M] [] 0 0) ∧ e.get 1 = some (.ptr 0 0)) ∨ (∃ e s a b, r = (.ret, e, s) ∧ e.get 2 = some (.d (.i .i64 a)) ∧ e.get 3 = some (.d (.i .i64 b)))) := by
        rw [← hL]
        clear hL
        refine loop_n o.tx.length (fun i => [(1, .ptr 0 0), (77, u0), (78, .d (.i .i64 o.tx.length)), (79, .d (.i .i64 i))]) (fun i => s0 [.row [u0, u1, u2, u3, u4], .map M] [] 0 0) ?_ (by simp) (by simp)
        intro i hi
        rcases Nat.lt_or_ge i o.tx.length with h | h
        · obtain ⟨x, hx⟩ : ∃ x, o.tx[i]? = some x := ⟨_, List.getElem?_eq_getElem h⟩
          have b0 := ho.tx
          have hn1 : IntKind.wrap .i64 ((i : Int) + 1) = i + 1 := wrap_i64 (by omega) (by omega)
          have hia := hu0.iaddr (i := (i : Int)) (k := .i64) (by omega) (by simp; omega)
          simp only [Int.toNat_natCast] at hia
          have hld : ∀ st, loadV 5 true st (elP 5 u0 i 0) = some (.agg (ofDs x.cells)) := fun st => by
            rw [hu0.load (el := x.cells) (by simp [hx]) (by omega) (by omega)]
            rfl
          obtain ⟨b, hnd⟩ := den_insn hp hI x
          obtain ⟨q0, q1, q2, q3, q4, hq⟩ : ∃ q0 q1 q2 q3 q4, ofDs x.cells = [q0, q1, q2, q3, q4] := ⟨_, _, _, _, _, rfl⟩
          rw [hq] at hld hnd
          cases b <;> simp [F330_object_Check_b3, h, hn1, hia, hld, hnd, lay, ofDs, hu0.esc]
        · obtain rfl : i = o.tx.length := by omega
          simp [F330_object_Check_b3, hu0.esc]
      rcases hQ with ⟨e, rfl, he1⟩ | ⟨e, s, a, b, rfl, he2, he3⟩
      rotate_left
      · simp [he2, he3]
      by_cases cr : 0 ≤ rk
      · simp [he1, hrk, cr]
      · simp [he1, hrk, cr]
  exact ⟨k, e, fun st => den_shut (hp.at 0 rfl) rfl rfl (by simp [o.close]) hk, hb⟩
end
end Go.Sh
