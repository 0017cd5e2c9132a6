/- The document's Write of sections, whole. -/
import Derived.Test.YtpgipjjhapapjaaShLewC
set_option linter.unusedVariables false
set_option linter.unusedSimpArgs false
set_option linter.unusedSectionVars false
namespace Go.Sh
theorem vwV_own1 {st : St} {T : Nat} {M : List UInt8} : vwV 1 st (ownT T M) = some (M.length, ofDs (byteCells M)) := by simp [vwV, vw, ownT]
theorem vwV_bsl {st : St} {nz : Bool} {M : List UInt8} : vwV 1 st (bsl nz M) = some (M.length, ofDs (byteCells M)) := by simp [vwV, vw, bsl]
def fwD (f : Nat) : Bool := f == 358
section
variable {pr : Prog} (hr : Sub rwFns pr)
include hr
/-- The bodies and the entries. -/
theorem rw_bodies {st : St} {c j id0 : Nat} {u allv out plv : V} {all : List Sec} {tail : List V} {pl : Sec → Nat} {Z : List UInt8} (hZ : Z.length = 64) (hf : st.floor = 0) (htf : st.tfloor = 0) (hc : st.tips[c]? = some 64) (hl : all.length ≤ 17) (hlv : lenV allv = some all.length)
    (hrow : st.row j = some (ofDs (all.map Sec.cells).flatten ++ tail)) (hia : ∀ i : Nat, i < all.length → iaddrV 8 allv (.d (.i .i64 (i : Int))) = some (.ptr j (i * 8))) (hok : ∀ x ∈ all, mayS x = true) (hsz : sumR all ≤ 1099511627000)
    (hplv : ∀ (i : Nat) x, all[i]? = some x → ∃ p, iaddrV 1 plv (.d (.i .i64 (i : Int))) = some p ∧ ∀ s, loadV 1 false s p = some (.d (.i .i64 (pl x : Nat)))) (hB : BR st out Z id0) (hj : j ≠ id0) {Q : Out → Prop}
    (hQ : ∀ e s w id', e.get 0 = some u → e.get 10 = some w → e.get 11 = some (ownT c (Z ++ entB pl 64 all)) → (∃ L, BR s w L id' ∧ padO L = Z ++ bodyB all) → s.tips[c]? = some (64 + 64 * all.length) → Kp st s (fun i => i = id0) (fun t => t = c) → Q (.exit 2, e, s)) :
    CodeW pr (.loop [0, 4, 6, 10, 11, 12] false F352_spindleref9_Write_b1) [(0, u), (4, allv), (6, plv), (10, out), (11, ownT c Z), (12, .d (.i .i64 0))] st Q := by
  obtain ⟨oR, hoR⟩ : ∃ o : List UInt8 → V, ∀ l, o l = ownT c l := ⟨_, fun _ => rfl⟩
  have hRl : ∀ i, i ≤ all.length → (Z ++ entB pl 64 (all.take i)).length = 64 + 64 * i := fun i hi => by rw [List.length_append, entB_len, hZ, List.length_take]; omega
  obtain ⟨J, hJ⟩ : ∃ J : Nat → Env → St → Prop, ∀ n' e s, J n' e s ↔ ∃ i w id' L, i ≤ all.length ∧ n' = all.length - i ∧ e = [(0, u), (4, allv), (6, plv), (10, w), (11, oR (Z ++ entB pl 64 (all.take i))), (12, .d (.i .i64 (i : Nat)))] ∧ BR s w L id' ∧ padO L = Z ++ bodyB (all.take i) ∧ s.tips[c]? = some (64 + 64 * i) ∧ Kp st s (fun i => i = id0) (fun t => t = c) ∧ (id' = id0 ∨ st.heap.length ≤ id') := ⟨_, fun _ _ _ => Iff.rfl⟩
  refine loopW_j fwD J ?_ (n := all.length) ((hJ _ _ _).2 ⟨0, out, id0, Z, Nat.zero_le _, rfl, by simp [entB, hoR], hB, ?_, hc, .refl _ _ _, .inl rfl⟩)
  rotate_left
  · have : r8 Z.length - Z.length = 0 := by rw [hZ]; rfl
    simp [padO, this, bodyB]
  intro n' e s hh
  obtain ⟨i, w, id', L, hi, rfl, rfl, hB1, hpad, ht, hK, hid⟩ := (hJ _ _ _).1 hh
  have hjl := row_lt hrow
  have hPl : (Z ++ bodyB (all.take i)).length = 64 + sumR (all.take i) := by rw [List.length_append, bodyB_len, hZ]
  have hst := sumR_take all i
  have hLl : L.length ≤ 64 + sumR (all.take i) := by
    have := padO_len L
    rw [hpad, hPl] at this
    have := r8_ge L.length
    omega
  rcases Nat.lt_or_ge i all.length with h | h
  · obtain ⟨x, hx⟩ : ∃ x, all[i]? = some x := ⟨_, List.getElem?_eq_getElem h⟩
    have htk := take_snoc hx
    have w1 : IntKind.wrap .i64 ((i : Int) + 1) = i + 1 := wrap_i64 (by omega) (by omega)
    have hlv' : (i : Int) < all.length := by omega
    have hst1 := sumR_take all (i + 1)
    rw [htk, sumR_snoc] at hst1
    have hxd := r8_ge x.data.length
    simp [F352_spindleref9_Write_b1, hlv, h, fwD]
    refine (callW_padded hr (st := s) (v := w) (L := L) (id := id') hB1 (hK.floor.trans hf) (by omega)).mono ?_
    rintro w2 s2 ⟨id2, hB2, hK2, hid2⟩
    have hB2 : BR s2 w2 (padO L) id2 := hB2
    rw [hpad] at hB2
    have hw2l : lenV w2 = some (64 + sumR (all.take i)) := by rw [hB2.len, hPl]
    have hKc : Kp st s2 (fun i => i = id0) (fun t => t = c) := by
      have := (hK.mono (R' := fun i => i = id0 ∨ st.heap.length ≤ i) (T' := fun t => t = c) (fun _ _ e => .inl e) fun _ _ h => h).trans (hK2.mono (R' := fun i => i = id0 ∨ st.heap.length ≤ i) (T' := fun t => t = c) (fun i _ e => by rw [e]; exact hid) fun _ _ h => h.elim)
      exact this.mono (fun i hi e => by omega) fun _ _ h => h
    have hid2' : id2 = id0 ∨ st.heap.length ≤ id2 := by
      have := hK.hlen
      rcases hid2 with e | e
      · rw [e]; exact hid
      · exact .inr (by omega)
    have hrow2 : s2.row j = some (ofDs (all.map Sec.cells).flatten ++ tail) := (row_of_heap (hKc.heap j hjl hj)).trans hrow
    have ht2 : s2.tips[c]? = some (Z ++ entB pl 64 (all.take i)).length := by
      rw [hRl i (by omega)]
      exact (hK2.tips c (List.getElem?_eq_some_iff.1 ht).1 fun h => h).trans ht
    have hen := den_entry9 hr (st := s2) (T := c) (R := Z ++ entB pl 64 (all.take i)) (x := x) (q := pl x) (a := 64 + sumR (all.take i)) ht2 (by rw [hKc.tfloor, htf]; omega) (hok x (List.mem_of_getElem? hx)) (by rw [hRl i (by omega)]; omega)
    rw [List.append_assoc, ← entB_snoc, ← htk, ← hoR, ← hoR] at hen
    obtain ⟨p, hp1, hp2⟩ := hplv i x hx
    have hia' := hia i h
    have hld : loadV 8 true s2 (.ptr j (i * 8)) = some (.agg (ofDs x.cells)) := secAt hx hrow2
    obtain ⟨s3, hs3⟩ : ∃ s3, s3 = (s2.push (.row (ofDs x.cells))).tk c ((Z ++ entB pl 64 (all.take i)).length + 64) := ⟨_, rfl⟩
    rw [← hs3] at hen
    have hK3 : Kp s2 s3 (fun _ => False) (fun t => t = c) := by
      rw [hs3]
      exact (Kp.push (R := fun _ => False) (T := fun t => t = c) (Blk.row (ofDs x.cells))).trans (tk_Kp rfl)
    have hrow3 : s3.row j = some (ofDs (all.map Sec.cells).flatten ++ tail) := (row_of_heap (hK3.heap j (row_lt hrow2) fun h => h)).trans hrow2
    have hcl : x.cells.length = 8 := rfl
    have hld3 : loadV 1 false s3 (.ptr j (i * 8 + 7)) = some (bsl x.nz x.data) := by
      have := secAt hx hrow3
      simp only [loadV, hrow3] at this ⊢
      split at this
      · rename_i h8
        rw [if_pos (by omega)]
        simp only [mkV, if_true, Option.some.injEq, V.agg.injEq] at this
        have h2 : (((ofDs (all.map Sec.cells).flatten ++ tail).drop (i * 8)).take 8).drop 7 = [bsl x.nz x.data] := by rw [this]; rfl
        rw [List.drop_take, List.drop_drop] at h2
        rw [show 8 - 7 = 1 from rfl] at h2
        rw [h2]
        rfl
      · cases this
    have hB3 : BR s3 w2 (Z ++ bodyB (all.take i)) id2 := hB2.keep hK3 fun h => h
    have hwi : ((64 + sumR (all.take i) : Nat) : Int) = 64 + (sumR (all.take i) : Nat) := by omega
    rw [hwi] at hen
    obtain ⟨P, hPd⟩ : ∃ P, P = V.ptr j (i * 8) := ⟨_, rfl⟩
    obtain ⟨P7, hP7d⟩ : ∃ P, P = V.ptr j (i * 8 + 7) := ⟨_, rfl⟩
    have hfa : faddrV 7 P = some P7 := by rw [hPd, hP7d]; simp [faddrV]
    rw [← hPd] at hld hia'
    rw [← hP7d] at hld3
    obtain ⟨X, hX⟩ : ∃ X, X = ofDs x.cells := ⟨_, rfl⟩
    rw [← hX] at hld hen
    simp [fwD, hp1, hp2, hia', hld, hw2l, hen, hfa, hld3]
    refine hB3.app (hK3.floor.trans (hKc.floor.trans hf)) vwV_bsl (by rw [hPl]; omega) ?_
    intro s4 w4 id4 hB4 hK4 hid4
    simp [w1]
    refine ⟨all.length - (i + 1), by omega, (hJ _ _ _).2 ⟨i + 1, w4, id4, _, h, rfl, by simp, hB4, ?_, ?_, ?_, ?_⟩⟩
    · rw [padO_app (by rw [hPl]; have := sumR_mod (all.take i); omega), List.append_assoc, htk, bodyB_snoc]
    · have e1 : s3.tips[c]? = some (64 + 64 * (i + 1)) := by
        rw [hs3, tk_tip (by simpa [St.push] using (List.getElem?_eq_some_iff.1 ht2).1), hRl i (by omega)]
        congr 1
      exact (hK4.tips c (List.getElem?_eq_some_iff.1 e1).1 fun h => h).trans e1
    · have k1 := hKc.mono (R' := fun i => i = id0 ∨ st.heap.length ≤ i) (T' := fun t => t = c) (fun _ _ e => .inl e) fun _ _ h => h
      have k2 := hK3.mono (R' := fun i => i = id0 ∨ st.heap.length ≤ i) (T' := fun t => t = c) (fun _ _ e => e.elim) fun _ _ h => h
      have k3 := hK4.mono (R' := fun i => i = id0 ∨ st.heap.length ≤ i) (T' := fun t => t = c) (fun i _ e => by rw [e]; exact hid2') fun _ _ h => h.elim
      exact ((k1.trans k2).trans k3).mono (fun i hi e => by omega) fun _ _ h => h
    · have := hKc.hlen
      have := hK3.hlen
      rcases hid4 with e | e
      · rw [e]; exact hid2'
      · exact .inr (by omega)
  · obtain rfl : i = all.length := by omega
    rw [List.take_of_length_le (Nat.le_refl _)] at hpad ⊢
    simp [F352_spindleref9_Write_b1, hlv]
    exact hQ _ _ w id' rfl rfl (by rw [← hoR]; rfl) ⟨L, hB1, hpad⟩ ht hK
omit hr in
/-- The head is laid over the first bytes. -/
theorem rw_head {st : St} {w rv : V} {A F : List UInt8} {id : Nat} {nz : Bool} (hB : BR st w A id) (hf : st.floor = 0) (hA : 64 ≤ A.length) (hA2 : A.length ≤ 1099511627776) (hF : F.length = 64) :
    ∃ e s, cden pr (.loop [10, 11, 13, 14] false F352_spindleref9_Write_b2) [(10, w), (11, rv), (13, bsl nz F), (14, .d (.i .i64 0))] st = some (.exit 4, e, s) ∧ e.get 10 = some w ∧ e.get 11 = some rv ∧ BR s w (F ++ A.drop 64) id ∧ Kp st s (fun i => i = id) (fun _ => False) := by
  obtain ⟨cap, tail, rfl, h2, h3, h4⟩ := hB
  obtain ⟨c, hc⟩ : ∃ c, c = ofDs (byteCells A) ++ tail := ⟨_, rfl⟩
  rw [← hc] at h3
  have hcl : c.length = cap := by rw [hc, List.length_append]; simp [ofDs, byteCells]; omega
  obtain ⟨f, hfd⟩ : ∃ f : Nat → V, ∀ k, f k = .d (.i .u8 (F.getD k 0).toNat) := ⟨_, fun _ => rfl⟩
  have hrl := row_lt h3
  have hsr : ∀ i, (st.put id (wrow f c i)).row id = some (wrow f c i) := fun i => row_put_eq hrl
  have hset : ∀ i cs, (st.put id (wrow f c i)).setBlk id (.row cs) = some (st.put id cs) := fun i cs => by rw [setBlk_put (by simpa using hf), put_put]
  have h0 : st = st.put id (wrow f c 0) := by rw [wrow_zero, put_self h3]
  obtain ⟨S0, hS0⟩ : ∃ S0 : Nat → St, ∀ i, S0 i = st.put id (wrow f c i) := ⟨_, fun _ => rfl⟩
  obtain ⟨W, hW⟩ : ∃ W, W = V.rsl 1 id 0 A.length cap := ⟨_, rfl⟩
  have hiw : ∀ i : Nat, i < 64 → iaddrV 1 W (.d (.i .i64 (i : Int))) = some (.ptr id i) := fun i hi => by
    rw [hW, iaddr_row (by omega)]
    simp
  have key : ∃ r, cden pr (.loop [10, 11, 13, 14] false F352_spindleref9_Write_b2) [(10, W), (11, rv), (13, bsl nz F), (14, .d (.i .i64 0))] st = some r ∧ ∃ e, r = (.exit 4, e, S0 64) ∧ e.get 10 = some W ∧ e.get 11 = some rv := by
    refine loop_n 64 (fun i => [(10, W), (11, rv), (13, bsl nz F), (14, .d (.i .i64 (i : Nat)))]) S0 ?_ (by simp) (by rw [hS0]; exact h0)
    intro i hi
    rcases Nat.lt_or_ge i 64 with h | h
    · obtain ⟨b, hb⟩ : ∃ b, F[i]? = some b := ⟨_, List.getElem?_eq_getElem (by omega)⟩
      obtain ⟨g1, g2⟩ := bsl_iaddr (nz := nz) hb (k := .i64)
      obtain ⟨P, hP⟩ : ∃ P, P = V.ep ((byteCells F).drop i) := ⟨_, rfl⟩
      rw [← hP] at g1 g2
      have hw := wrow_step (f := f) (c := c) (i := i) (by omega)
      have hfi : f i = .d (.i .u8 b.toNat) := by rw [hfd]; simp [List.getD_eq_getElem?_getD, hb]
      rw [hfi] at hw
      have hwl := wrow_len (f := f) (c := c) (i := i) (by omega)
      have w1 : IntKind.wrap .i64 ((i : Int) + 1) = i + 1 := wrap_i64 (by omega) (by omega)
      have hl64 : (i : Int) < 64 := by omega
      have hiw' := hiw i h
      have hst : storeV 1 (S0 i) (.ptr id i) (.d (.i .u8 b.toNat)) = some (S0 (i + 1)) := by
        simp only [storeV, hS0, hsr]
        rw [if_pos ⟨rfl, rfl, by rw [hwl]; omega⟩, hset, show (V.d (.i .u8 b.toNat)).cs = [.d (.i .u8 b.toNat)] from rfl, hw]
      obtain ⟨Wp, hWp⟩ : ∃ Wp, Wp = V.ptr id i := ⟨_, rfl⟩
      rw [← hWp] at hiw' hst
      simp [F352_spindleref9_Write_b2, hl64, h, g1, g2, hiw', hst, w1]
    · obtain rfl : i = 64 := by omega
      simp [F352_spindleref9_Write_b2]
  obtain ⟨_, k1, e, rfl, k2, k3⟩ := key
  refine ⟨e, _, by rw [← hW]; exact k1, by rw [← hW]; exact k2, k3, ⟨cap, tail, ?_, ?_, ?_, ?_⟩, by rw [hS0]; exact .put rfl⟩
  · rw [List.length_append, List.length_drop, hF, show 64 + (A.length - 64) = A.length by omega]
  · rw [List.length_append, List.length_drop]; omega
  · rw [hS0, hsr]
    congr 1
    have e1 : (List.range 64).map f = ofDs (byteCells F) := by
      apply List.ext_getElem?
      intro k
      by_cases hk : k < 64
      · simp [hk, hfd, ofDs, byteCells, List.getD_eq_getElem?_getD, hF]
      · rw [List.getElem?_eq_none (by simpa using hk), List.getElem?_eq_none (by simp [ofDs, byteCells, hF]; omega)]
    have e2 : c.drop 64 = ofDs (byteCells (A.drop 64)) ++ tail := by
      rw [hc, List.drop_append_of_le_length (by simp [ofDs, byteCells]; omega)]
      simp [ofDs, byteCells, List.map_drop]
    unfold wrow
    rw [e1, e2]
    simp [ofDs, byteCells]
  · rw [List.length_append, List.length_drop]; omega
variable (h8 : Sub nm8Fns pr)
include h8
theorem den_all9 {v : V} {ss : List Sec} (hv : SlC 8 v (ss.map Sec.cells)) (hn : ss.length ≤ 1099511627776) (hnm : ∀ x ∈ ss, x.nm.length ≤ 140737488351232) {st : St} : ∃ b, den pr 355 [v] st = some (.d (.b b), st) ∧ (b = true ↔ good ss) := by
  obtain ⟨u, hc, hu⟩ := hv.close
  have hlen := hu.len
  rw [List.length_map] at hlen
  by_cases h16 : ss.length ≤ 16
  rotate_left
  · have h16' : (16 : Int) < ss.length := by omega
    refine ⟨false, den_shut (hr.at 1 rfl) rfl rfl (by simp [hc]; rfl) ?_, by simp [good, h16]⟩
    simp [F355_spindleref9_all, hlen, h16']
  have h16' : ¬ (16 : Int) < ss.length := by omega
  by_cases hg : ∀ x ∈ ss, mayS x = true
  · refine ⟨true, den_shut (hr.at 1 rfl) rfl rfl (by simp [hc]; rfl) ?_, by simp [good, h16]; exact hg⟩
    simp [F355_spindleref9_all, hlen, h16']
    generalize hL : cden pr (.loop _ _ _) _ _ = q
    obtain ⟨r, rfl, e, s, rfl⟩ : ∃ r, q = some r ∧ ∃ e s, r = (.exit 0, e, s) := by
      rw [← hL]
      clear hL
      refine loop_n ss.length (fun i => [(0, u), (3, .d (.i .i64 (i : Nat)))]) (fun _ => s0 [] [] 0 0) ?_ (by simp) (by simp)
      intro i hi
      rcases Nat.lt_or_ge i ss.length with h | h
      · obtain ⟨x, hx⟩ : ∃ x, ss[i]? = some x := ⟨_, List.getElem?_eq_getElem h⟩
        have w1 : IntKind.wrap .i64 ((i : Int) + 1) = i + 1 := wrap_i64 (by omega) (by omega)
        have hia := hu.iaddr (i := (i : Int)) (k := .i64) (by omega) (by simp; omega)
        simp only [Int.toNat_natCast] at hia
        have hld : ∀ s, loadV 8 true s (elP 8 u i 0) = some (.agg (ofDs x.cells)) := fun s => by
          rw [hu.load (el := x.cells) (by simp [hx]) (by omega) (by omega)]
          rfl
        have hm := fun st => den_May9 hr h8 (st := st) (s := x) (hnm x (List.mem_of_getElem? hx))
        rw [hg x (List.mem_of_getElem? hx)] at hm
        obtain ⟨X, hX⟩ : ∃ X, X = ofDs x.cells := ⟨_, rfl⟩
        rw [← hX] at hld hm
        simp [F355_spindleref9_all_b0, hlen, h, hia, hld, hm, w1]
      · obtain rfl : i = ss.length := by omega
        simp [F355_spindleref9_all_b0, hlen]
    simp
  · refine ⟨false, den_shut (hr.at 1 rfl) rfl rfl (by simp [hc]; rfl) ?_, by simp [good, hg]⟩
    simp [F355_spindleref9_all, hlen, h16']
    generalize hL : cden pr (.loop _ _ _) _ _ = q
    obtain ⟨r, rfl, e, s, rfl, h2⟩ : ∃ r, q = some r ∧ ∃ e s, r = (.ret, e, s) ∧ e.get 2 = some (.d (.b false)) := by
      rw [← hL]
      clear hL
      obtain ⟨J, hJ⟩ : ∃ J : Nat → Env → St → Prop, ∀ m e t, J m e t ↔ ∃ i, m = ss.length - i ∧ i ≤ ss.length ∧ e = [(0, u), (3, .d (.i .i64 (i : Nat)))] ∧ t = s0 [] [] 0 0 ∧ ∀ x ∈ ss.take i, mayS x = true := ⟨_, fun _ _ _ => Iff.rfl⟩
      refine loop_j J ?_ (n := ss.length) ((hJ _ _ _).2 ⟨0, by omega, by omega, by simp, by simp, fun b hb => by simp at hb⟩)
      intro m e t hh
      obtain ⟨i, rfl, hi, rfl, rfl, hy⟩ := (hJ _ _ _).1 hh
      rcases Nat.lt_or_ge i ss.length with h | h
      · obtain ⟨x, hx⟩ : ∃ x, ss[i]? = some x := ⟨_, List.getElem?_eq_getElem h⟩
        have w1 : IntKind.wrap .i64 ((i : Int) + 1) = i + 1 := wrap_i64 (by omega) (by omega)
        have hia := hu.iaddr (i := (i : Int)) (k := .i64) (by omega) (by simp; omega)
        simp only [Int.toNat_natCast] at hia
        have hld : ∀ s, loadV 8 true s (elP 8 u i 0) = some (.agg (ofDs x.cells)) := fun s => by
          rw [hu.load (el := x.cells) (by simp [hx]) (by omega) (by omega)]
          rfl
        have hm := fun st => den_May9 hr h8 (st := st) (s := x) (hnm x (List.mem_of_getElem? hx))
        have htk := take_snoc hx
        obtain ⟨X, hX⟩ : ∃ X, X = ofDs x.cells := ⟨_, rfl⟩
        rw [← hX] at hld hm
        cases hmx : mayS x with
        | false =>
          rw [hmx] at hm
          simp [F355_spindleref9_all_b0, hlen, h, hia, hld, hm, w1]
        | true =>
          rw [hmx] at hm
          simp [F355_spindleref9_all_b0, hlen, h, hia, hld, hm, w1]
          refine ⟨ss.length - (i + 1), by omega, (hJ _ _ _).2 ⟨i + 1, rfl, h, by simp, rfl, fun y hy' => ?_⟩⟩
          rw [htk, List.mem_append, List.mem_singleton] at hy'
          rcases hy' with e | e
          · exact hy y e
          · rw [e]; exact hmx
      · exfalso
        rw [List.take_of_length_le (by omega)] at hy
        exact hg hy
    simp [h2]
end
end Go.Sh
