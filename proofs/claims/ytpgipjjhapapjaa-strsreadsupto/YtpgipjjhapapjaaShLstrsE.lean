/- String tables: Read, of bytes that are data or lie in a row. -/
import Derived.Test.YtpgipjjhapapjaaShLstrsD
set_option linter.unusedVariables false
set_option linter.unusedSimpArgs false
namespace Go.Sh
/-- Bytes that can be read: as data, or in a row. -/
def BV (st : St) (v : V) (L : List UInt8) : Prop := (∃ nz, v = bsl nz L) ∨ ∃ id off cap c, v = .rsl 1 id off L.length cap ∧ L.length ≤ cap ∧ st.row id = some c ∧ off + L.length ≤ c.length ∧ (c.drop off).take L.length = ofDs (byteCells L)
theorem bsl_iaddr {nz : Bool} {L : List UInt8} {i : Nat} {b : UInt8} (h : L[i]? = some b) {k : IntKind} : iaddrV 1 (bsl nz L) (.d (.i k (i : Int))) = some (.ep ((byteCells L).drop i)) ∧ ∀ s, loadV 1 false s (.ep ((byteCells L).drop i)) = some (.d (.i .u8 b.toNat)) := by
  have hlt := (List.getElem?_eq_some_iff.1 h).1
  have hd : (byteCells L).drop i = .i .u8 b.toNat :: (byteCells L).drop (i + 1) := by
    rw [List.drop_eq_getElem_cons (by rw [byteCells_len]; exact hlt)]
    congr 1
    simp only [byteCells, List.getElem_map]
    rw [(List.getElem?_eq_some_iff.1 h).2]
  refine ⟨?_, fun s => ?_⟩
  · simp [iaddrV, bsl, hlt]
  · rw [hd]
    simp [loadV, mkV, ofDs]
section
variable {st st' : St} {v : V} {L : List UInt8}
theorem BV.len (h : BV st v L) : lenV v = some L.length := by
  rcases h with ⟨nz, rfl⟩ | ⟨id, off, cap, c, rfl, _⟩ <;> rfl
theorem BV.keep {R T : Nat → Prop} (h : BV st v L) (k : Kp st st' R T) (hR : ∀ j, foot v = some j → ¬ R j) : BV st' v L := by
  rcases h with h | ⟨id, off, cap, c, rfl, h1, h2, h3⟩
  · exact .inl h
  · exact .inr ⟨id, off, cap, c, rfl, h1, (row_of_heap (k.heap id (row_lt h2) (hR id rfl))).trans h2, h3⟩
theorem BV.lt (h : BV st v L) {j : Nat} (hj : foot v = some j) : j < st.heap.length := by
  rcases h with ⟨nz, rfl⟩ | ⟨id, off, cap, c, rfl, h1, h2, h3⟩
  · cases hj
  · obtain rfl := Option.some.inj hj
    exact row_lt h2
theorem BV.get (h : BV st v L) {i : Nat} {b : UInt8} (hb : L[i]? = some b) {k : IntKind} : ∃ p, iaddrV 1 v (.d (.i k (i : Int))) = some p ∧ loadV 1 false st p = some (.d (.i .u8 b.toNat)) := by
  have hlt := (List.getElem?_eq_some_iff.1 hb).1
  rcases h with ⟨nz, rfl⟩ | ⟨id, off, cap, c, rfl, h1, h2, h3, h4⟩
  · exact ⟨_, (bsl_iaddr (nz := nz) (k := k) hb).1, (bsl_iaddr (nz := nz) (k := k) hb).2 st⟩
  · refine ⟨_, iaddr_row hlt, ?_⟩
    have hc : c[off + i]? = some (.d (.i .u8 b.toNat)) := by
      have := congrArg (fun l => l[i]?) h4
      simp only [List.getElem?_take, if_pos hlt, List.getElem?_drop] at this
      rw [this]
      simp [ofDs, byteCells, hb]
    simp only [Nat.mul_one, loadV_ptr, h2]
    rw [if_pos (by omega), List.drop_eq_getElem_cons (by omega), List.take_succ_cons, List.take_zero]
    simp only [mkV]
    rw [(List.getElem?_eq_some_iff.1 hc).2]
    simp
theorem BV.slc (h : BV st v L) {lo hi : Option V} {a b : Nat} (hb : Bd hi L.length b) (ha : Bd lo 0 a) (hab : a ≤ b) (hbn : b ≤ L.length) : ∃ w, slcV 1 v lo hi none = some w ∧ BV st w ((L.take b).drop a) ∧ (foot w = foot v) := by
  rcases h with ⟨nz, rfl⟩ | ⟨id, off, cap, c, rfl, h1, h2, h3, h4⟩
  · exact ⟨_, bsl_slc nz L hb ha hab hbn, .inl ⟨nz, rfl⟩, rfl⟩
  · have hbd : bnds L.length cap lo hi none = some (a, b, cap) := by
      unfold bnds
      rw [show bnd none cap cap = some cap from rfl]
      simp only
      rw [hb.bnd (by omega)]
      simp only
      rw [ha.bnd hab]
    have hlen : ((L.take b).drop a).length = b - a := by simp; omega
    refine ⟨.rsl 1 id (off + a) (b - a) (cap - a), by simp [slcV, hbd], .inr ⟨id, off + a, cap - a, c, by rw [hlen], by rw [hlen]; omega, h2, by rw [hlen]; omega, ?_⟩, rfl⟩
    rw [hlen]
    have h5 := congrArg (fun l => (l.drop a).take (b - a)) h4
    simp only [List.drop_take, List.take_take, List.drop_drop] at h5
    rw [show min (b - a) (L.length - a) = b - a by omega] at h5
    rw [h5]
    simp only [ofDs, byteCells, ← List.map_drop, ← List.map_take, List.drop_take]
theorem BV.vw (h : BV st v L) : vw 1 st v = some (L.length, byteCells L) := by
  rcases h with ⟨nz, rfl⟩ | ⟨id, off, cap, c, rfl, h1, h2, h3, h4⟩
  · rfl
  · simp only [Go.Sh.vw, if_true, Nat.mul_one, cellsAt, h2, h3, h4, toDs_of, Option.map_some]
theorem BV.b2s (h : BV st v L) : b2sV st v = some (.d (.s L)) := by
  have hv := h.vw
  have hl : (byteCells L).length = L.length := by simp [byteCells]
  have key : (match Go.Sh.vw 1 st v with
    | some (n, ds) => if ds.length = n then (bytesOf ds).map fun l => V.d (.s l) else none
    | none => none) = some (.d (.s L)) := by rw [hv]; simp only [hl, if_true, bytesOf_cells, Option.map_some]
  rcases h with ⟨nz, rfl⟩ | ⟨id, off, cap, c, rfl, _⟩ <;> exact key
theorem BV.idx (h : BV st v L) : pIdxB [v, .d (.i .u8 0)] st = some (.d (.i .i64 (Lib.indexByte L 0))) := by
  have hv := h.vw
  have hl : (byteCells L).length = L.length := by simp [byteCells]
  have hn : notStr v = true := by rcases h with ⟨nz, rfl⟩ | ⟨id, off, cap, c, rfl, _⟩ <;> rfl
  simp only [pIdxB, hn, if_true, hv, hl, bytesOf_cells, Option.map_some]
  rfl
end
/-- What a Read comes to. -/
def RdPost (st : St) (L : List UInt8) (v : V) (st' : St) : Prop := Kp st st' (fun _ => False) (fun _ => False) ∧ match readB L with
  | (none, q) => v = .tup [.d .np, .d (.i .i64 (q : Nat)), .d (.i .i64 80)]
  | (some ns, _) => ∃ p m tn tp, v = .tup [.ptr p 0, .d (.i .i64 0), .d (.i .i64 0)] ∧ Tbl st' p m tn tp ns ∧ st.heap.length ≤ p ∧ st.heap.length ≤ m ∧ (ns ≠ [] → st.tips.length ≤ tn ∧ st.tips.length ≤ tp)
theorem readB_none {L : List UInt8} (h : ∀ r, L ≠ 0 :: r) : readB L = (none, 0) := by
  unfold readB
  cases L with
  | nil => rfl
  | cons x r =>
    have : x ≠ 0 := fun e => h r (by rw [e])
    simp [this]
section
variable {pr : Prog} (hp : Sub strsFns pr) (hq : SubP strsPrims pr) {st : St}
include hp hq
theorem den_Read {v : V} {L : List UInt8} (hfl : st.floor = 0) (htf : st.tfloor = 0) (hv : BV st v L) (hL : L.length ≤ 1099511627000) : ∃ x st', den pr 143 [v] st = some (x, st') ∧ RdPost st L x st' := by
  have hlen := hv.len
  obtain ⟨Q, hQd⟩ : ∃ Q : V → St → Prop, ∀ x s, Q x s ↔ RdPost st L x s := ⟨_, fun _ _ => Iff.rfl⟩
  suffices h : Ans Q (den pr 143 [v] st) by
    obtain ⟨x, st', h1, h2⟩ := h.ex
    exact ⟨x, st', h1, (hQd _ _).1 h2⟩
  rw [den_fn (hp.at 12 rfl) rfl rfl, start_raw _ rfl]
  have hbad : ∀ s, Kp st s (fun _ => False) (fun _ => False) → ∀ q, readB L = (none, q) → Q (.tup [.d .np, .d (.i .i64 (q : Nat)), .d (.i .i64 80)]) s := fun s k q hr => (hQd _ _).2 ⟨k, by rw [hr]⟩
  cases L with
  | nil =>
    have h0 := hbad st (.refl _ _ _) 0 rfl
    simp [F143_strs_Read, hlen]
    exact h0
  | cons x r =>
    obtain ⟨a0, g1, g2⟩ := hv.get (i := 0) (b := x) rfl (k := .i64)
    have hlp : ¬ ((r.length : Int) + 1 = 0) := by omega
    have hlp' : ¬ (((x :: r).length : Nat) : Int) = 0 := by simp; omega
    by_cases hx : x = 0
    rotate_left
    · have h0 := hbad st (.refl _ _ _) 0 (readB_none fun r' e => hx (by simp at e; exact e.1))
      have hxn : ¬ (x.toNat = 0) := by
        intro e
        apply hx
        have : x.toNat = (0 : UInt8).toNat := by simpa using e
        exact UInt8.toNat_inj.1 this
      simp [F143_strs_Read, hlen, hlp, hlp'] at g1 g2 ⊢
      simp [g1, g2, hxn]
      exact h0
    subst hx
    obtain ⟨s0', n1, n2, n3⟩ := den_New hp hfl htf
    have hst0 := hv.keep n3 fun _ _ h => h
    simp [F143_strs_Read, hlen, hlp, hlp', n1] at g1 g2 ⊢
    simp [g1, g2, n1]
    generalize hLo : cden pr (.loop _ _ _) _ _ = o
    have hrd : readB (0 :: r) = rdNm r.length [] 1 r := by simp [readB]
    obtain ⟨J2, hJ2⟩ : ∃ J2 : Out → Prop, ∀ rr, J2 rr ↔ ((∃ e s m tn tp p ns, rr = (.exit 0, e, s) ∧ e.get 5 = some (.ptr p 0) ∧ Kp st s (fun _ => False) (fun _ => False) ∧ readB (0 :: r) = (some ns, 0) ∧ Tbl s p m tn tp ns ∧ st.heap.length ≤ p ∧ st.heap.length ≤ m ∧ (ns ≠ [] → st.tips.length ≤ tn ∧ st.tips.length ≤ tp)) ∨ (∃ e s q, rr = (.ret, e, s) ∧ e.get 2 = some (.d .np) ∧ e.get 3 = some (.d (.i .i64 (q : Nat))) ∧ e.get 4 = some (.d (.i .i64 80)) ∧ Kp st s (fun _ => False) (fun _ => False) ∧ readB (0 :: r) = (none, q))) := ⟨_, fun _ => Iff.rfl⟩
    have key : ∃ rr, o = some rr ∧ J2 rr := by
      rw [← hLo]
      obtain ⟨J, hJ⟩ : ∃ J : Nat → Env → St → Prop, ∀ n e s, J n e s ↔ ∃ m tn tp ns, n + endAt 1 ns = (0 :: r).length ∧ e = [(0, v), (5, .ptr (st.heap.length + 1) 0)] ∧ Kp st s (fun _ => False) (fun _ => False) ∧ (∀ k, n ≤ k → readB (0 :: r) = rdNm k ns (endAt 1 ns) ((0 :: r).drop (endAt 1 ns))) ∧ Tbl s (st.heap.length + 1) m tn tp ns ∧ BV s v (0 :: r) ∧ st.heap.length ≤ m ∧ (ns ≠ [] → st.tips.length ≤ tn ∧ st.tips.length ≤ tp) := ⟨_, fun _ _ _ => Iff.rfl⟩
      refine loop_j J ?_ (n := r.length)
        ((hJ _ _ _).2 ⟨st.heap.length, 0, 0, [], by simp [endAt], by simp, n3, fun k hk => ?_, n2, hst0, Nat.le_refl _, fun h => absurd rfl h⟩)
      rotate_left
      · rw [hrd]
        show _ = rdNm k [] 1 r
        -- the fuel does not matter
        have fuel : ∀ (k1 k2 : Nat) ns a (t : List UInt8), t.length ≤ k1 → t.length ≤ k2 → rdNm k1 ns a t = rdNm k2 ns a t := by
          intro k1
          induction k1 with
          | zero =>
            intro k2 ns a t h1 h2
            have : t = [] := List.eq_nil_of_length_eq_zero (by omega)
            subst this
            cases k2 <;> simp [rdNm]
          | succ k1 ih =>
            intro k2 ns a t h1 h2
            cases k2 with
            | zero =>
              have : t = [] := List.eq_nil_of_length_eq_zero (by omega)
              subst this
              simp [rdNm]
            | succ k2 =>
              unfold rdNm
              split
              · rfl
              · split
                · rfl
                · rename_i h0 _
                  have : 0 < t.length := List.length_pos_iff.2 h0
                  exact ih k2 _ _ _ (by rw [List.length_drop]; omega) (by rw [List.length_drop]; omega)
        exact fuel _ _ _ _ _ (Nat.le_refl _) hk
      intro n e s hJn
      obtain ⟨m, tn, tp, ns, hn, rfl, hk, hrdk, htb, hbv, hm, htk⟩ := (hJ _ _ _).1 hJn
      clear hJn
      obtain ⟨vN, vP, hrow, hN, hP⟩ := htb.row
      have hbl := hbv.len
      have hge := endAt_ge (a := 1) (ns := ns)
      obtain ⟨E, hE⟩ : ∃ E, E = endAt 1 ns := ⟨_, rfl⟩
      have hN1 := hrdk n (Nat.le_refl _)
      rw [← hE] at hrow hn hge hN1
      obtain ⟨W, hW⟩ : ∃ W : List UInt8, W = 0 :: r := ⟨_, rfl⟩
      rw [← hW] at hbl hbv hn hN1 hL
      have hret : ∀ e q, e.get 2 = some (.d .np) → e.get 3 = some (.d (.i .i64 (q : Nat))) → e.get 4 = some (.d (.i .i64 80)) → readB W = (none, q) → J2 (.ret, e, s) := fun e q e2 e3 e4 hr => (hJ2 _).2 (.inr ⟨e, s, q, rfl, e2, e3, e4, hk, by rw [← hW]; exact hr⟩)
      rcases Nat.lt_or_ge E W.length with hlt | hge2
      rotate_left
      · have hEe : E = W.length := by omega
        have hnE : ¬ ((E : Int) < W.length) := by omega
        simp [F143_strs_Read_b0, hrow, hbl, hnE]
        refine (hJ2 _).2 (.inl ⟨_, _, m, tn, tp, _, ns, rfl, by simp, hk, ?_, htb, by omega, hm, htk⟩)
        rw [← hW, hN1, hEe, List.drop_length]
        have : n = 0 := by omega
        subst this
        rfl
      have hltE : (E : Int) < W.length := by omega
      have hnp : 0 < n := by omega
      obtain ⟨n', rfl⟩ : ∃ n', n = n' + 1 := ⟨n - 1, by omega⟩
      obtain ⟨w, w1, w2, w3⟩ := hbv.slc (lo := some (.d (.i .i64 (E : Nat)))) (hi := none) (a := E) (b := W.length) rfl rfl (by omega) (Nat.le_refl _)
      rw [List.take_length] at w2
      have hidx := hq.den 2 rfl (args := [w, .d (.i .u8 0)]) (st := s) w2.idx
      rw [idx_zero] at hidx
      obtain ⟨R, hR⟩ : ∃ R, R = W.drop E := ⟨_, rfl⟩
      rw [← hR] at hidx w2 hN1
      have hRl : R.length = W.length - E := by rw [hR, List.length_drop]
      have hRne : R ≠ [] := fun e => by rw [e] at hRl; simp at hRl; omega
      have hzl := toZero_len R
      unfold rdNm at hN1
      rw [if_neg hRne] at hN1
      -- a fault
      have fault : (toZero R).length = R.length ∨ (toZero R).length = 0 ∨ 64 < (toZero R).length ∨ toZero R ∈ ns → readB W = (none, E) := fun hc => by rw [hN1, if_pos hc]
      have dr1 : ∀ e', opsS pr (den pr) [] [] e' s = some (e', s) := fun _ => rfl
      by_cases hc1 : (toZero R).length = R.length
      · have hfa := fault (.inl hc1)
        rw [if_pos hc1] at hidx
        simp [F143_strs_Read_b0, hrow, hbl, hltE, w1, hidx]
        exact hret _ E (by simp) (by simp) (by simp) hfa
      rw [if_neg hc1] at hidx
      by_cases hc2 : (toZero R).length < 1
      · have hfa := fault (.inr (.inl (by omega)))
        have hc2' : ((toZero R).length : Int) < 1 := by omega
        simp [F143_strs_Read_b0, hrow, hbl, hltE, w1, hidx, hc2']
        exact hret _ E (by simp) (by simp) (by simp) hfa
      have hc2' : ¬ ((toZero R).length : Int) < 1 := by omega
      by_cases hc3 : 64 < (toZero R).length
      · have hfa := fault (.inr (.inr (.inl hc3)))
        have hc3' : (64 : Int) < ((toZero R).length : Int) := by omega
        simp [F143_strs_Read_b0, hrow, hbl, hltE, w1, hidx, hc2', hc3']
        exact hret _ E (by simp) (by simp) (by simp) hfa
      have hc3' : ¬ (64 : Int) < ((toZero R).length : Int) := by omega
      have wadd : IntKind.wrap .i64 ((E : Int) + ((toZero R).length : Int)) = (E : Int) + ((toZero R).length : Int) := wrap_i64 (by omega) (by omega)
      obtain ⟨u, u1, u2, u3⟩ := hbv.slc (lo := some (.d (.i .i64 (E : Nat)))) (hi := some (.d (.i .i64 ((E : Int) + ((toZero R).length : Int))))) (a := E) (b := E + (toZero R).length) (by simp [Bd, intV]) rfl (by omega) (by omega)
      have hname : (W.take (E + (toZero R).length)).drop E = toZero R := by
        rw [List.drop_take, Nat.add_sub_cancel_left, ← hR, toZero_take]
      rw [hname] at u2
      have ub := u2.b2s
      have hfe := findE_ents (toZero R) ns 1
      have hmap := htb.map
      by_cases hc4 : toZero R ∈ ns
      · have hfa := fault (.inr (.inr (.inr hc4)))
        obtain ⟨q, hqq⟩ : ∃ q, findNm (toZero R) 1 ns = some q := by
          cases hf : findNm (toZero R) 1 ns with
          | none => exact absurd hc4 (findNm_none.1 hf)
          | some q => exact ⟨q, rfl⟩
        rw [hqq] at hfe
        simp [F143_strs_Read_b0, hrow, hbl, hltE, w1, hidx, hc2', hc3', wadd, u1, ub, lookV, keyOk, hmap, hfe, lookOut, zeroV]
        exact hret _ E (by simp) (by simp) (by simp) hfa
      rw [findNm_none.2 hc4] at hfe
      have hok : okNm (toZero R) = true := by
        unfold okNm
        rw [toZero_no]
        simp
        omega
      have hzr : (toZero R).length < R.length := by omega
      obtain ⟨s5, tn', tp', p1, p2, p3, p4⟩ := den_putS hp hq htb hok hc4 (by omega)
      simp [F143_strs_Read_b0, hrow, hbl, hltE, w1, hidx, hc2', hc3', wadd, u1, ub, lookV, keyOk, hmap, hfe, lookOut, zeroV, p1]
      rw [if_neg (by rintro (h | h | h | h) <;> first | omega | exact hc4 h)] at hN1
      have hne : endAt 1 (ns ++ [toZero R]) = E + (toZero R).length + 1 := by rw [endAt_snoc, ← hE]
      have k5 : Kp st s5 (fun _ => False) (fun _ => False) := by
        have pp : Kp s s5 (fun i => st.heap.length ≤ i) (fun t => st.tips.length ≤ t) := p3.mono (fun i _ h => by rcases h with h | h <;> omega) fun t _ ⟨h0, h⟩ => by
          obtain ⟨q1, q2⟩ := htk h0
          rcases h with h | h <;> omega
        exact ⟨pp.floor.trans hk.floor, pp.tfloor.trans hk.tfloor, Nat.le_trans hk.hlen pp.hlen, Nat.le_trans hk.tlen pp.tlen, fun i hi _ => (pp.heap i (Nat.lt_of_lt_of_le hi hk.hlen) (by omega)).trans (hk.heap i hi id), fun t ht _ => (pp.tips t (Nat.lt_of_lt_of_le ht hk.tlen) (by omega)).trans (hk.tips t ht id)⟩
      refine ⟨n' - (toZero R).length, by omega, (hJ _ _ _).2 ⟨m, tn', tp', ns ++ [toZero R], by rw [hne, ← hW]; omega, rfl, k5, fun k hkk => ?_, p2, ?_, hm, fun _ => ?_⟩⟩
      · -- what is still to be read
        have hsub := hrdk (k + (toZero R).length + 1) (by omega)
        rw [← hE, ← hW, ← hR] at hsub
        have hstep : rdNm (k + (toZero R).length + 1) ns E R = rdNm (k + (toZero R).length) (ns ++ [toZero R]) (E + (toZero R).length + 1) (R.drop ((toZero R).length + 1)) := by
          conv => lhs; unfold rdNm
          rw [if_neg hRne, if_neg (by rintro (h | h | h | h) <;> first | omega | exact hc4 h)]
        rw [← hW, hsub, hstep, hne]
        have hdd : W.drop (E + (toZero R).length + 1) = R.drop ((toZero R).length + 1) := by rw [hR, List.drop_drop]; congr 1
        rw [hdd]
        have fuel : ∀ (k1 k2 : Nat) ns a (t : List UInt8), t.length ≤ k1 → t.length ≤ k2 → rdNm k1 ns a t = rdNm k2 ns a t := by
          intro k1
          induction k1 with
          | zero =>
            intro k2 ns a t h1 h2
            have : t = [] := List.eq_nil_of_length_eq_zero (by omega)
            subst this
            cases k2 <;> simp [rdNm]
          | succ k1 ih =>
            intro k2 ns a t h1 h2
            cases k2 with
            | zero =>
              have : t = [] := List.eq_nil_of_length_eq_zero (by omega)
              subst this
              simp [rdNm]
            | succ k2 =>
              unfold rdNm
              split
              · rfl
              · split
                · rfl
                · rename_i h0 _
                  have : 0 < t.length := List.length_pos_iff.2 h0
                  exact ih k2 _ _ _ (by rw [List.length_drop]; omega) (by rw [List.length_drop]; omega)
        exact fuel _ _ _ _ _ (by rw [List.length_drop]; omega) (by rw [List.length_drop]; omega)
      · rw [← hW]
        refine hbv.keep (R := TR (st.heap.length + 1) m) (T := TT tn tp ns) p3 fun j hj h => ?_
        have hjlt := hv.lt hj
        rcases h with h | h <;> omega
      · rcases p4 with ⟨rfl, rfl, hne0⟩ | ⟨q1, q2⟩
        · exact htk hne0
        · have := hk.tlen
          omega
    obtain ⟨rr, rfl, key⟩ := key
    rcases (hJ2 _).1 key with ⟨e, s, m, tn, tp, p, ns, rfl, e5, hk, hr, ht, h1, h2, h3⟩ | ⟨e, s, q, rfl, e2, e3, e4, hk, hr⟩
    · simp [e5]
      refine (hQd _ _).2 ⟨hk, ?_⟩
      rw [hr]
      exact ⟨p, m, tn, tp, rfl, ht, h1, h2, h3⟩
    · simp [e2, e3, e4]
      exact hbad s hk q hr
end
end Go.Sh
