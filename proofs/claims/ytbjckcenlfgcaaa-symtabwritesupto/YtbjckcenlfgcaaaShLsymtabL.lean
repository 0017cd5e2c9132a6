/- What the document's Write comes to. -/
import Derived.Test.YtbjckcenlfgcaaaShLsymtabK
set_option linter.unusedVariables false
set_option linter.unusedSimpArgs false
namespace Go.Sh
theorem sortOk_parts {x : Sym} {s : Srt} (h : x.sortOk = some s) : (0 ≤ x.name ∧ x.name ≤ 4294967295) ∧ x.sec = s.sec ∧ 0 ≤ x.value ∧ 0 ≤ x.size ∧ 16 * x.binding + x.kind = s.info ∧ (0 ≤ x.binding ∧ x.binding ≤ 1 ∧ 0 ≤ x.kind ∧ x.kind ≤ 2) := by
  unfold Sym.sortOk at h
  split at h
  · rename_i hb
    cases hs : sortOf (16 * x.binding + x.kind) with
    | none => rw [hs] at h; cases h
    | some t =>
      rw [hs] at h
      simp only at h
      split at h
      · rename_i hc
        obtain rfl := Option.some.inj h
        have hi : 16 * x.binding + x.kind = t.info := by
          unfold sortOf at hs
          split at hs
          · obtain rfl := Option.some.inj hs; assumption
          split at hs
          · obtain rfl := Option.some.inj hs; assumption
          split at hs
          · obtain rfl := Option.some.inj hs; assumption
          split at hs
          · obtain rfl := Option.some.inj hs; assumption
          · cases hs
        refine ⟨⟨hc.1, hc.2.1⟩, hc.2.2.1, ?_, ?_, hi, hb⟩
        · have := hc.2.2.2.1
          cases t <;> simp [Srt.value] at this <;> omega
        · have := hc.2.2.2.2
          cases t <;> simp [Srt.size] at this <;> omega
      · cases h
  · cases h
section
variable {pr : Prog} (hp : Sub refWFns pr) {st : St}
include hp
theorem raw_refWrite {u : V} {ss : List Sym} (hu : SlD 6 u (ss.map Sym.cells)) (hl : ss.length ≤ 2932031007402) (hr : ∀ x ∈ ss, x.value ≤ 9223372036854775807 ∧ x.size ≤ 9223372036854775807) : RawD pr F41_spindleref10_Write [u] fun v s => (∃ o c, wrRun o0 ss = .ok (o, c) ∧ v = .tup [.own 1 (24 * ss.length + 24) true (zeros24 ++ c) 0, .d (.i .i64 0)] ∧ s.tips[0]? = some (24 * ss.length + 24)) ∨
    ∃ k, wrRun o0 ss = .error k ∧ v = .tup [.d (.sl 0 false []), .d (.i .i64 k)] := by
  refine .of ?_
  have hlen := hu.len
  rw [List.length_map] at hlen
  have r2 : room 1 (.d (.i .i64 24)) = some 24 := by simp [room]
  simp [F41_spindleref10_Write, r2, ofDs, reps]
  generalize hL : cden pr (.loop _ _ _) _ _ = o
  obtain ⟨r, rfl, hQ⟩ : ∃ r, o = some r ∧ ((∃ o c e s, wrRun o0 ss = .ok (o, c) ∧ r = (.exit 0, e, s) ∧ e.get 4 = some (.own 1 (24 * ss.length + 24) true (zeros24 ++ c) 0) ∧ s.tips[0]? = some (24 * ss.length + 24)) ∨
      ∃ k e s, wrRun o0 ss = .error k ∧ r = (.ret, e, s) ∧ e.get 2 = some (.d (.sl 0 false [])) ∧ e.get 3 = some (.d (.i .i64 k))) := by
    rw [← hL]
    refine loop_j (fun n e st => ∃ i o c bs, i ≤ ss.length ∧ n = ss.length - i ∧ wrRun o0 (ss.take i) = .ok (o, c) ∧ ((i = 0 ∧ o.last = none) ∨ ∃ l y, 0 < i ∧ ss[i - 1]? = some y ∧ y.sortOk = some l ∧ o.last = some l ∧ o.value = y.value) ∧ st = s0 bs [24 * i + 24] 0 0 ∧
      e = [(0, u), (4, .own 1 (24 * i + 24) true (zeros24 ++ c) 0), (5, .d (.i .i64 o.tables)), (6, .d (.i .i64 i))]) ?_ (n := ss.length) ?_
    rotate_left
    · exact ⟨0, o0, [], [], by omega, by omega, rfl, .inl ⟨rfl, rfl⟩, by simp, by simp [zeros24, o0, reps]⟩
    rintro n e st ⟨i, o, c, bs, hi, rfl, hwr, hord, rfl, rfl⟩
    obtain ⟨t1, t2, t3⟩ := wrRun_tables _ hwr
    have t1 : 0 ≤ o.tables := t1
    rw [List.length_take, Nat.min_eq_left hi] at t2 t3
    have t2 : o.tables ≤ 0 + (i : Int) := t2
    rcases Nat.lt_or_ge i ss.length with h | h
    · obtain ⟨x, hx⟩ : ∃ x, ss[i]? = some x := ⟨_, List.getElem?_eq_getElem h⟩
      obtain ⟨r1, r2⟩ := hr x (List.mem_of_getElem? hx)
      have htk : ss.take (i + 1) = ss.take i ++ [x] := by rw [List.take_add_one, hx]; rfl
      have hstep : wrRun o0 (ss.take (i + 1)) = match wr1 o x with
          | .error e => .error e
          | .ok (o'', c') => .ok (o'', c ++ c') := by rw [htk, wrRun_append, hwr]; simp only [wrRun_one]; cases wr1 o x <;> rfl
      have herr : ∀ k, wr1 o x = .error k → wrRun o0 ss = .error k := by
        intro k hk
        rw [hk] at hstep
        rw [← List.take_append_drop (i + 1) ss, wrRun_append, hstep]
      have hia := hu.iaddr (i := (i : Int)) (k := .i64) (by omega) (by simp; omega)
      have hld : ∀ st, loadV 6 true st (elP 6 u i 0) = some (.agg (ofDs x.cells)) := fun st => hu.load (st := st) (i := i) (o := 0) (n := 6) (agg := true) (el := x.cells) (by simp [hx]) (by omega) (by simp [Sym.cells])
      simp only [Int.toNat_natCast] at hia
      have h1 : IntKind.wrap .i64 ((i : Int) + 1) = i + 1 := wrap_i64 (by omega) (by omega)
      have hso := fun st => den_refSort hp (st := st) x
      cases hs : x.sortOk with
      | none =>
        rw [hs] at hso
        have hk := herr 100 (by simp [wr1, hs])
        simp [F41_spindleref10_Write_b0, h, hlen, hia, hld, hso, sortN]
        exact hk
      | some s =>
        rw [hs] at hso
        have hfo := fun st => den_follows hp (st := st) hu.c hx hs hord t1 (by omega) hl
        have hsn : ¬ (s.rank = 0) := by cases s <;> (try cases ‹Bool›) <;> simp [Srt.rank]
        cases c6 : o.ok s x.value
        · rw [c6] at hfo
          have hk := herr 101 (by simp [wr1, hs, c6])
          simp [F41_spindleref10_Write_b0, h, hlen, hia, hld, hso, sortN, hsn, hfo]
          exact hk
        rw [c6] at hfo
        obtain ⟨⟨q1, q2⟩, q3, q4, q5, q6, q7, q8, q9, q10⟩ := sortOk_parts hs
        have hw1 : wr1 o x = .ok (o.step s x.value, x.bytes s) := by simp [wr1, hs, c6]
        rw [hw1] at hstep
        simp only at hstep
        obtain ⟨N, hN⟩ : ∃ N, N = 24 * i + 24 := ⟨_, rfl⟩
        obtain ⟨C, hC⟩ : ∃ C, C = zeros24 ++ c := ⟨_, rfl⟩
        have hCl : C.length = N := by rw [hC, hN, List.length_append, zeros24_len, t3]; omega
        have i0 : 0 ≤ s.info := by cases s <;> (try cases ‹Bool›) <;> simp [Srt.info]
        have i1 : s.info ≤ 9223372036854775807 := by cases s <;> (try cases ‹Bool›) <;> simp [Srt.info]
        have s0' : 0 ≤ s.sec := by cases s <;> simp [Srt.sec]
        have s1' : s.sec ≤ 9223372036854775807 := by cases s <;> simp [Srt.sec]
        have k1 : IntKind.wrap .i64 (16 * x.binding) = 16 * x.binding := wrap_i64 (by omega) (by omega)
        have k2 : IntKind.wrap .i64 (16 * x.binding + x.kind) = s.info := by rw [q6]; exact wrap_i64 (by omega) (by omega)
        have hix : x.sec = s.sec := q3
        obtain ⟨A1, hA1⟩ : ∃ A, A = C ++ le 4 (x.name) := ⟨_, rfl⟩
        have l1 : A1.length = N + 4 := by rw [hA1, List.length_append, hCl, le_len]
        have p1 : ∀ bs fl, den pr 40 [.own 1 N true C 0, .d (.i .i64 (x.name)), .d (.i .i64 4)] (s0 bs [N] fl 0) = some (.own 1 (N + 4) true A1 0, s0 bs [N + 4] fl 0) := fun bs fl => by
          rw [hA1]
          exact den_number (pr := pr) hp (bs := bs) (ts := [N]) (fl := fl) (tf := 0) (t := 0) (x := (x.name)) (w := 4) (by omega) (by omega) rfl (by omega) hCl (by omega) (by omega)
        obtain ⟨A2, hA2⟩ : ∃ A, A = A1 ++ le 1 (s.info) := ⟨_, rfl⟩
        have l2 : A2.length = N + 5 := by rw [hA2, List.length_append, l1, le_len]
        have p2 : ∀ bs fl, den pr 40 [.own 1 (N + 4) true A1 0, .d (.i .i64 (s.info)), .d (.i .i64 1)] (s0 bs [N + 4] fl 0) = some (.own 1 (N + 5) true A2 0, s0 bs [N + 5] fl 0) := fun bs fl => by
          rw [hA2]
          exact den_number (pr := pr) hp (bs := bs) (ts := [N + 4]) (fl := fl) (tf := 0) (t := 0) (x := (s.info)) (w := 1) i0 i1 rfl (by omega) l1 (by omega) (by omega)
        obtain ⟨A3, hA3⟩ : ∃ A, A = A2 ++ le 1 (0) := ⟨_, rfl⟩
        have l3 : A3.length = N + 6 := by rw [hA3, List.length_append, l2, le_len]
        have p3 : ∀ bs fl, den pr 40 [.own 1 (N + 5) true A2 0, .d (.i .i64 (0)), .d (.i .i64 1)] (s0 bs [N + 5] fl 0) = some (.own 1 (N + 6) true A3 0, s0 bs [N + 6] fl 0) := fun bs fl => by
          rw [hA3]
          exact den_number (pr := pr) hp (bs := bs) (ts := [N + 5]) (fl := fl) (tf := 0) (t := 0) (x := (0)) (w := 1) (by omega) (by omega) rfl (by omega) l2 (by omega) (by omega)
        obtain ⟨A4, hA4⟩ : ∃ A, A = A3 ++ le 2 (s.sec) := ⟨_, rfl⟩
        have l4 : A4.length = N + 8 := by rw [hA4, List.length_append, l3, le_len]
        have p4 : ∀ bs fl, den pr 40 [.own 1 (N + 6) true A3 0, .d (.i .i64 (s.sec)), .d (.i .i64 2)] (s0 bs [N + 6] fl 0) = some (.own 1 (N + 8) true A4 0, s0 bs [N + 8] fl 0) := fun bs fl => by
          rw [hA4]
          exact den_number (pr := pr) hp (bs := bs) (ts := [N + 6]) (fl := fl) (tf := 0) (t := 0) (x := (s.sec)) (w := 2) s0' s1' rfl (by omega) l3 (by omega) (by omega)
        obtain ⟨A5, hA5⟩ : ∃ A, A = A4 ++ le 8 (x.value) := ⟨_, rfl⟩
        have l5 : A5.length = N + 16 := by rw [hA5, List.length_append, l4, le_len]
        have p5 : ∀ bs fl, den pr 40 [.own 1 (N + 8) true A4 0, .d (.i .i64 (x.value)), .d (.i .i64 8)] (s0 bs [N + 8] fl 0) = some (.own 1 (N + 16) true A5 0, s0 bs [N + 16] fl 0) := fun bs fl => by
          rw [hA5]
          exact den_number (pr := pr) hp (bs := bs) (ts := [N + 8]) (fl := fl) (tf := 0) (t := 0) (x := (x.value)) (w := 8) (by omega) (by omega) rfl (by omega) l4 (by omega) (by omega)
        obtain ⟨A6, hA6⟩ : ∃ A, A = A5 ++ le 8 (x.size) := ⟨_, rfl⟩
        have l6 : A6.length = N + 24 := by rw [hA6, List.length_append, l5, le_len]
        have p6 : ∀ bs fl, den pr 40 [.own 1 (N + 16) true A5 0, .d (.i .i64 (x.size)), .d (.i .i64 8)] (s0 bs [N + 16] fl 0) = some (.own 1 (N + 24) true A6 0, s0 bs [N + 24] fl 0) := fun bs fl => by
          rw [hA6]
          exact den_number (pr := pr) hp (bs := bs) (ts := [N + 16]) (fl := fl) (tf := 0) (t := 0) (x := (x.size)) (w := 8) (by omega) (by omega) rfl (by omega) l5 (by omega) (by omega)
        have hall : A6 = C ++ x.bytes s := by rw [hA6, hA5, hA4, hA3, hA2, hA1, Sym.bytes, hix]; simp
        simp only [Sym.cells, ofDs, List.map_cons, List.map_nil, hix] at hso
        have hes : ∀ st a b, esc1 st a b u = some u := fun st a b => hu.esc st a b
        have w3 : IntKind.wrap .i64 (o.tables + 1) = o.tables + 1 := wrap_i64 (by omega) (by omega)
        have hN2 : 24 * (i + 1) + 24 = N + 24 := by omega
        have hord' : ((i + 1 = 0 ∧ (o.step s x.value).last = none) ∨ ∃ l y, 0 < i + 1 ∧ ss[i + 1 - 1]? = some y ∧ y.sortOk = some l ∧ (o.step s x.value).last = some l ∧ (o.step s x.value).value = y.value) := .inr ⟨s, x, by omega, by simpa using hx, hs, rfl, rfl⟩
        rw [← hC, ← hN]
        by_cases ht : s = .tab
        · have hst : (o.step s x.value).tables = o.tables + 1 := by simp [Ordr.step, ht]
          have hrk : s.rank = 2 := by rw [ht]; rfl
          simp [F41_spindleref10_Write_b0, h, hlen, hia, hld, hso, sortN, hsn, hrk, hfo, w3, Sym.cells, ofDs, lay, k1, k2, hix, p1, p2, p3, p4, p5, p6, h1, hes]
          refine ⟨ss.length - (i + 1), by omega, i + 1, by omega, rfl, _, _, hstep, by simpa using hord', ⟨_, by rw [hN2]⟩, ⟨by omega, by rw [hall, hC, List.append_assoc]⟩, ?_, by simp⟩
          rw [hst]
        · have hst : (o.step s x.value).tables = o.tables := by simp [Ordr.step, ht]
          have hrk : ¬ (s.rank = 2) := by cases s <;> (try cases ‹Bool›) <;> simp_all [Srt.rank]
          simp [F41_spindleref10_Write_b0, h, hlen, hia, hld, hso, sortN, hsn, hrk, hfo, w3, Sym.cells, ofDs, lay, k1, k2, hix, p1, p2, p3, p4, p5, p6, h1, hes]
          refine ⟨ss.length - (i + 1), by omega, i + 1, by omega, rfl, _, _, hstep, by simpa using hord', ⟨_, by rw [hN2]⟩, ⟨by omega, by rw [hall, hC, List.append_assoc]⟩, ?_, by simp⟩
          rw [hst]
    · obtain rfl : i = ss.length := by omega
      rw [List.take_length] at hwr
      simp [F41_spindleref10_Write_b0, hlen]
      exact ⟨o, c, hwr, _, _, ⟨rfl, rfl⟩, by simp, by simp⟩
  rcases hQ with ⟨o, c, e, s, hw, rfl, h4, h5⟩ | ⟨k, e, s, hw, rfl, h2, h3⟩
  · simp [h4, hw, h5]
  · simp [h2, h3, hw]
theorem den_refWrite {v : V} {ss : List Sym} (hv : SlC 6 v (ss.map Sym.cells)) (hl : ss.length ≤ 2932031007402) (hr : ∀ x ∈ ss, x.value ≤ 9223372036854775807 ∧ x.size ≤ 9223372036854775807) : den pr 41 [v] st = some (.tup (wrOut ss), st) := by
  obtain ⟨u, hc, hu⟩ := hv.close
  refine (raw_refWrite hp hu hl hr).den (hp.at 3 rfl) rfl rfl (by simp [hc]) ?_
  rintro v s (⟨o, c, hw, rfl, _⟩ | ⟨k, hw, rfl⟩)
  · simp [wrOut, hw]
  · simp [wrOut, hw]
end
end Go.Sh
