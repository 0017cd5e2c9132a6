/- StrsReads, as a law about runs. -/
import Derived.Test.YtpgipjjhapapjaaShLstrsK
import Derived.Test.YtpgipjjhapapjaaShLlenderB
set_option linter.unusedVariables false
set_option linter.unusedSimpArgs false
namespace Go.Sh
def readFns : List (Nat × SFn) := [(159, F159_spindlelaw8_turned), (160, F160_spindlelaw8_read), (161, F161_spindlelaw8_StrsReads)]
def tz (x : UInt8) : UInt8 := if 1 < x.toNat then UInt8.ofNat (x.toNat - 1) else x
/-- A lender between two uses. -/
def LnS (st : St) (p : Nat) : Prop := ∃ B N j, LnI st p B N j ∧ ∀ r n, B = .rsl 1 r 0 n n → n ≤ 274877906944
theorem LnS.lt {st : St} {p : Nat} (h : LnS st p) : p < st.heap.length := by
  obtain ⟨B, N, j, ⟨_, h, _⟩, _⟩ := h
  exact row_lt h
section
variable {pr : Prog} (hp : Sub strsFns pr) (hq : SubP strsPrims pr) (hl : Sub law8Fns pr) (hr : Sub ref8Fns pr) (hd : Sub lendFns pr) (ha : Sub readFns pr) {st : St}
include ha
theorem den_turned8 {nz : Bool} {L : List UInt8} (hL : L.length ≤ 1099511600000) : den pr 159 [bsl nz L] st = some (bsl (decide (L ≠ [])) (L.map tz), st) := by
  refine den_shut (ha.at 0 rfl) rfl rfl (by simp; rfl) ?_
  have hbl : lenV (bsl nz L) = some L.length := rfl
  simp [F159_spindlelaw8_turned]
  generalize hLo : cden pr (.loop _ _ _) _ _ = o
  obtain ⟨gv, hgv⟩ : ∃ gv : Nat → V, ∀ i, gv i = if i = 0 then .d (.sl 0 false []) else .own 1 i true (byteCells ((L.take i).map tz)) 0 := ⟨_, fun _ => rfl⟩
  obtain ⟨gt, hgt⟩ : ∃ gt : Nat → List Nat, ∀ i, gt i = if i = 0 then [] else [i] := ⟨_, fun _ => rfl⟩
  obtain ⟨r, rfl, hQ⟩ : ∃ r, o = some r ∧ ∃ e, r = (.exit 0, e, s0 [] (gt L.length) 0 0) ∧ e.get 3 = some (gv L.length) := by
    rw [← hLo]
    refine loop_n L.length (fun i => [(0, bsl nz L), (3, gv i), (4, .d (.i .i64 i))]) (fun i => s0 [] (gt i) 0 0) ?_ (by simp [hgv]) (by simp [hgt])
    intro i hi
    rcases Nat.lt_or_ge i L.length with hlt | hge
    · obtain ⟨b, hb⟩ : ∃ b, L[i]? = some b := ⟨_, List.getElem?_eq_getElem hlt⟩
      obtain ⟨P, g1, g2⟩ := bsl_get (nz := nz) hb
      have h1 : IntKind.wrap .i64 ((i : Int) + 1) = i + 1 := wrap_i64 (by omega) (by omega)
      have htk : ((L.take (i + 1)).map tz) = (L.take i).map tz ++ [tz b] := by rw [take_snoc hb, List.map_append]; rfl
      have happ : ∀ y : Int, y = (tz b).toNat → appV 1 1 (s0 [] (gt i) 0 0) (gv i) (.d (.sl 1 true [.i .u8 y])) = some (gv (i + 1), s0 [] (gt (i + 1)) 0 0) := by
        rintro y rfl
        have b1 : i + 1 ≤ 140737488355328 := by omega
        have hcl : (byteCells ((L.take i).map tz)).length = i := by rw [byteCells_len, List.length_map, List.length_take]; omega
        rw [hgv, hgv, hgt, hgt, htk, byteCells_app]
        by_cases h0 : i = 0
        · subst h0
          simp [appV, vw, byteCells]
        · have hmin : min i L.length = i := by omega
          simp [h0, appV, vw, byteCells_len, hmin, b1]
          rfl
      by_cases hx : 1 < b.toNat
      · have h2 : IntKind.wrap .u8 ((b.toNat : Int) - 1) = ((tz b).toNat : Int) := by
          have := b.toNat_lt
          rw [wrap_u8 (by omega) (by omega)]
          unfold tz
          rw [if_pos hx, UInt8.toNat_ofNat']
          omega
        have happ := happ _ rfl
        have hx' : (1 : Int) < b.toNat := by omega
        simp [F159_spindlelaw8_turned_b0, hbl, hlt, g1, g2, hx, hx', h1, h2, fillV, lay, reps, ofDs, happ]
      · have happ := happ b.toNat (by unfold tz; rw [if_neg hx])
        have hx' : ¬ (1 : Int) < b.toNat := by omega
        simp [F159_spindlelaw8_turned_b0, hbl, hlt, g1, g2, hx, hx', h1, fillV, lay, reps, ofDs, happ]
    · have : i = L.length := by omega
      subst this
      simp [F159_spindlelaw8_turned_b0, hbl]
  obtain ⟨e, rfl, e3⟩ := hQ
  rw [hgv] at e3
  by_cases h0 : L = []
  · subst h0
    simp at e3
    simp [e3, bsl, byteCells]
  · have hln : L.length ≠ 0 := fun e => h0 (List.eq_nil_of_length_eq_zero e)
    simp [hln] at e3
    simp [e3, bsl, h0]
include hp hq hl hr hd
theorem den_read8 {p : Nat} {nz : Bool} {L : List UInt8} (h : LnS st p) (htf : st.tfloor = 0) (hL : L.length ≤ 1073741824) : ∃ st', den pr 160 [bsl nz L, .ptr p 0] st = some (.d (.b true), st') ∧ LnS st' p ∧ st'.tfloor = 0 := by
  have hcp := fun st => den_copyB8 hr (st := st) (nz := nz) (L := L) (by omega)
  have hrr := fun st => den_refRead hr (st := st) (nz := true) (L := L) (by omega)
  have hnum := fun st x => den_num8 hr (st := st) x
  obtain ⟨Q, hQ⟩ : ∃ Q : V → St → Prop, ∀ v s', Q v s' ↔ v = .d (.b true) ∧ LnS s' p ∧ s'.tfloor = 0 := ⟨_, fun _ _ => Iff.rfl⟩
  suffices hh : Ans Q (den pr 160 [bsl nz L, .ptr p 0] st) by
    obtain ⟨v, s', e1, e2⟩ := hh.ex
    obtain ⟨rfl, h2⟩ := (hQ _ _).1 e2
    exact ⟨s', e1, h2⟩
  rw [den_fn (ha.at 1 rfl) rfl rfl, start_raw _ rfl]
  have hfl : st.floor = 0 := by obtain ⟨_, _, _, h, _⟩ := h; exact h.1
  have hset0 : ∀ T', (st.push (.row [.d (.sl 0 false [])])).setBlk st.heap.length (.row [T']) = some (st.push (.row [T'])) := by
    intro T'
    rw [setBlk_put (by simpa using hfl)]
    simp [St.put, St.push]
  -- lent, read, given back
  have core : ∀ T', ∃ s2 r v s3 s4, den pr 169 [.ptr p 0, bsl nz L] (st.push (.row [T'])) = some (.rsl 1 r 0 L.length (2 * L.length + 70), s2) ∧ den pr 143 [.rsl 1 r 0 L.length (2 * L.length + 70)] s2 = some (v, s3) ∧ RdPost s2 L v s3 ∧ den pr 170 [.ptr p 0, bsl nz L] s3 = some (.d (.b true), s4) ∧ LnS s4 p ∧ s4.tfloor = 0 ∧ Kp s3 s4 (fun i => i = r) (fun _ => False) ∧ s4.row st.heap.length = some [T'] ∧ r < s2.heap.length := by
    intro T'
    have hplt := h.lt
    obtain ⟨B, N, j, h1o, h2⟩ := h
    have h1 : LnI (st.push (.row [T'])) p B N j := h1o.keep (R := fun _ => False) (T := fun _ => False) (.push _) id fun _ _ => id
    have hj : ∀ i, j = some i → i < st.heap.length := by
      intro i hi
      obtain ⟨_, _, ⟨rfl, _⟩ | ⟨r', c', q1, q2, q3, _⟩⟩ := h1o
      · cases hi
      · rw [hi] at q1
        obtain rfl := Option.some.inj q1
        exact row_lt q3
    obtain ⟨s2, r, c, l1, l2, l3, l4, l5⟩ := den_Lend hd h1 (nz := nz) (L := L) (by omega) (fun r c _ hB => h2 r c.length hB)
    obtain ⟨v, s3, r1, r2⟩ := den_Read hp hq (st := s2) (v := .rsl 1 r 0 L.length (2 * L.length + 70)) (L := L) l2.fl (l4.tfloor.trans (by simpa using htf)) (l2.bv _ (by omega)) (by omega)
    have k3 := r2.1
    have l2' := l2.keep k3 id id
    obtain ⟨s4, b1, b2, b3⟩ := den_Back hd l2' (nz := nz) (by omega)
    have hpn : st.heap.length ≠ p := by omega
    have hT2 : s2.row st.heap.length = some [T'] := by
      refine (row_of_heap (l4.heap st.heap.length (by simp) ?_)).trans (row_push_new rfl)
      rintro (e | e)
      · exact hpn e
      · have := hj _ e
        omega
    have hT3 : s3.row st.heap.length = some [T'] := (row_of_heap (k3.heap _ (row_lt hT2) id)).trans hT2
    have hrn : st.heap.length ≠ r := by
      rcases l3 with e | e
      · have := hj r e
        omega
      · simp at e; omega
    refine ⟨s2, r, v, s3, s4, l1, r1, r2, b1, ⟨_, _, _, b2, fun r' n' hB => ?_⟩, b3.tfloor.trans (k3.tfloor.trans (l4.tfloor.trans (by simpa using htf))), b3, (row_of_heap (b3.heap _ (row_lt hT3) hrn)).trans hT3, row_lt l2.buf⟩
    simp only [V.rsl.injEq] at hB
    omega
  cases hrb : readB L with
  | mk o q =>
  cases o with
  | none =>
    have hrf : refRd L = .tup [.agg [.d (.sl 0 false [])], .d (.i .i64 (q : Nat)), .d (.i .i64 80)] := by unfold refRd; rw [hrb]; rfl
    obtain ⟨s2, r, v, s3, s4, c1, c2, c3, c4, c5, c6, c7, c8, c9⟩ := core (.d (.sl 0 false []))
    obtain ⟨_, c3⟩ := c3
    rw [hrb] at c3
    simp only at c3
    subst c3
    have hk : Q (.d (.b true)) s4 := (hQ _ _).2 ⟨rfl, c5, c6⟩
    simp [F160_spindlelaw8_read, hcp, hrr, hrf, ofDs, lay, hset0, c1, c2, c4, hnum, eqV]
    exact hk
  | some ns =>
    have hrf : refRd L = .tup [.agg [.d (.sl ns.length (decide (ns ≠ [])) (ns.map .s))], .d (.i .i64 0), .d (.i .i64 0)] := by unfold refRd; rw [hrb]; rfl
    obtain ⟨T', hT'⟩ : ∃ T', T' = V.d (.sl ns.length (decide (ns ≠ [])) (ns.map .s)) := ⟨_, rfl⟩
    rw [← hT'] at hrf
    have hTo : T'.ok1 = true ∧ T'.cs = [T'] := by rw [hT']; exact ⟨rfl, rfl⟩
    obtain ⟨s2, r, v, s3, s4, c1, c2, c3, c4, c5, c6, c7, c8, c9⟩ := core T'
    obtain ⟨_, c3⟩ := c3
    rw [hrb] at c3
    simp only at c3
    obtain ⟨pt, mt, tn, tp, rfl, ht, hp1, hm1, htk⟩ := c3
    have hk : Q (.d (.b true)) s4 := (hQ _ _).2 ⟨rfl, c5, c6⟩
    have ht4 : Tbl s4 pt mt tn tp ns := ht.keep c7 (by omega) (by omega) fun _ => ⟨id, id⟩
    obtain ⟨hb, _, _, _⟩ := readB_some hrb
    have hlen : endAt 1 ns = L.length := by rw [hb, tabB_len]
    have hnm := den_Names hp ht4 (by omega)
    have hby := den_Bytes hp ht4 (by omega)
    have hge := endAt_ge (a := 1) (ns := ns)
    have hst := den_sameT hr (st := s4) (nz := decide (ns ≠ [])) (nz' := decide (ns ≠ [])) (a := ns) (b := ns) (by omega)
    have hsb : den pr 73 [bsl true (tabB ns), bsl nz L] s4 = some (.d (.b true), s4) := by rw [den_sameB8 hl, decide_eq_true hb.symm]
    rw [← hT'] at hst
    simp only [nmsV] at hnm
    rw [← hT'] at hnm
    simp at hst
    simp [F160_spindlelaw8_read, hcp, hrr, hrf, ofDs, lay, hset0, c1, c2, c4, hnum, eqV, hTo, hnm, hby, c8, hst, hsb]
    exact hk
theorem law_StrsReads {nz : Bool} {L : List UInt8} (hL : L.length ≤ 1073741824) : ∃ st', den pr 161 [bsl nz L] st0 = some (.d (.b true), st') := by
  have haw := fun st => den_awake8 hp hq hl (st := st)
  have htu := fun st => den_turned8 ha (st := st) (nz := nz) (L := L) (by omega)
  suffices hh : Ans (fun v _ => v = .d (.b true)) (den pr 161 [bsl nz L] st0) by
    obtain ⟨v, s, e1, rfl⟩ := hh.ex
    exact ⟨s, e1⟩
  rw [den_fn (ha.at 2 rfl) rfl rfl, start_raw _ rfl]
  obtain ⟨s1, hs1⟩ : ∃ s1, s1 = st0.push (.row [.d (.sl 0 false []), .d (.i .i64 0)]) := ⟨_, rfl⟩
  have l1 : LnS s1 0 := by
    rw [hs1]
    exact ⟨.d (.sl 0 false []), 0, none, ⟨rfl, row_push_new rfl, .inl ⟨rfl, rfl⟩⟩, nofun⟩
  obtain ⟨s2, a1, a2, a3⟩ := den_read8 hp hq hl hr hd ha (nz := decide (L ≠ [])) (L := L.map tz) l1 (by rw [hs1]; rfl) (by rw [List.length_map]; omega)
  obtain ⟨s3, b1, b2, b3⟩ := den_read8 hp hq hl hr hd ha (nz := nz) (L := L) a2 a3 (by omega)
  obtain ⟨s4, c1, c2, c3⟩ := den_read8 hp hq hl hr hd ha (nz := nz) (L := L) b2 b3 (by omega)
  simp at a1 htu
  simp [F161_spindlelaw8_StrsReads, fillV, ofDs, ← hs1, htu, a1, b1, c1, haw]
end
end Go.Sh
