/- The document's Write of sections: which may be, padding. -/
import Derived.Test.YtpgipjjhapapjaaShLewA
import Derived.Test.YtpgipjjhapapjaaShBe
set_option linter.unusedVariables false
set_option linter.unusedSimpArgs false
set_option linter.unusedSectionVars false
namespace Go.Sh
/-- Bytes in a row of their own. -/
def BR (st : St) (v : V) (L : List UInt8) (id : Nat) : Prop := ∃ cap tail, v = .rsl 1 id 0 L.length cap ∧ L.length ≤ cap ∧ st.row id = some (ofDs (byteCells L) ++ tail) ∧ tail.length + L.length = cap
theorem BR.keep {st st' : St} {v : V} {L : List UInt8} {id : Nat} {R T : Nat → Prop} (h : BR st v L id) (k : Kp st st' R T) (hr : ¬ R id) : BR st' v L id := by
  obtain ⟨cap, tail, h1, h2, h3, h4⟩ := h
  exact ⟨cap, tail, h1, h2, (row_of_heap (k.heap id (row_lt h3) hr)).trans h3, h4⟩
theorem BR.len {st : St} {v : V} {L : List UInt8} {id : Nat} (h : BR st v L id) : lenV v = some L.length := by
  obtain ⟨cap, tail, rfl, h2, h3, h4⟩ := h
  rfl
theorem BR.app {st : St} {v x : V} {L M : List UInt8} {id : Nat} (h : BR st v L id) (hf : st.floor = 0) (hx : vwV 1 st x = some (M.length, ofDs (byteCells M))) (hb : L.length + M.length ≤ 140737488355328) {Q : V → St → Prop}
    (hQ : ∀ st' v' id', BR st' v' (L ++ M) id' → Kp st st' (fun i => i = id) (fun _ => False) → (id' = id ∨ st.heap.length ≤ id') → Q v' st') : appW 1 1 [.i .u8 0] st v x Q := by
  obtain ⟨cap, tail, rfl, h2, h3, h4⟩ := h
  have hcl : ∀ X : List UInt8, (ofDs (byteCells X)).length = X.length := fun X => by simp [ofDs, byteCells]
  refine appW_K hf h3 (by rw [hcl, Nat.mul_one]) (by omega) h2 hx (by rw [hcl, Nat.mul_one]) rfl (by omega) (by omega) ?_
  intro st' id' cap' tail' q1 q2 q3 q4 q5
  refine hQ st' _ id' ⟨cap', tail', by rw [List.length_append], by rw [List.length_append]; exact q3, ?_, by rw [List.length_append]; omega⟩ q4 q5
  rw [q1]
  simp [ofDs, byteCells]
theorem vwV_one {st : St} {b : Nat} (hb : b < 256) : vwV 1 st (.d (.sl 1 true [.i .u8 (b : Int)])) = some (1, ofDs (byteCells [UInt8.ofNat b])) := by
  have : ((UInt8.ofNat b).toNat : Int) = b := by rw [UInt8.toNat_ofNat']; omega
  simp [vwV, vw, ofDs, byteCells]
  omega
theorem r8_le (x k : Nat) (h : x + k ≤ r8 x) (hne : (x + k) % 8 ≠ 0) : x + (k + 1) ≤ r8 x := by unfold r8 at *; omega
theorem r8_eq (x k : Nat) (h : x + k ≤ r8 x) (he : (x + k) % 8 = 0) : x + k = r8 x := by unfold r8 at *; omega
section
variable {pr : Prog} (hr : Sub rwFns pr) {st : St}
include hr
theorem callW_padded {v : V} {L : List UInt8} {id : Nat} (h : BR st v L id) (hf : st.floor = 0) (hb : L.length ≤ 140737488355000) :
    CallW pr 358 [v] st fun v' s => ∃ id', BR s v' (L ++ List.replicate (r8 L.length - L.length) 0) id' ∧ Kp st s (fun i => i = id) (fun _ => False) ∧ (id' = id ∨ st.heap.length ≤ id') := by
  refine .run (fun _ => false) (hr.at 4 rfl) rfl ?_
  rw [start_raw _ rfl]
  refine codeC_of ?_
  have h8 := r8_lt L.length
  have h8' := r8_ge L.length
  simp [F358_spindleref9_padded]
  obtain ⟨J, hJ⟩ : ∃ J : Nat → Env → St → Prop, ∀ n' e s, J n' e s ↔ ∃ k w id', L.length + k ≤ r8 L.length ∧ n' = r8 L.length - L.length - k ∧ e = [(0, w)] ∧ BR s w (L ++ List.replicate k 0) id' ∧ Kp st s (fun i => i = id) (fun _ => False) ∧ (id' = id ∨ st.heap.length ≤ id') := ⟨_, fun _ _ _ => Iff.rfl⟩
  refine loopW_j (fun _ => false) J ?_ (n := r8 L.length - L.length) ((hJ _ _ _).2 ⟨0, v, id, by omega, by omega, by simp, by simpa using h, .refl _ _ _, .inl rfl⟩)
  intro n' e s hh
  obtain ⟨k, w, id', hk, rfl, rfl, hB, hK, hid⟩ := (hJ _ _ _).1 hh
  have hwl : lenV w = some (L.length + k) := by rw [hB.len]; simp
  have ht : ((L.length : Int) + (k : Int)).tmod 8 = (((L.length + k) % 8 : Nat) : Int) := by rw [Int.tmod_eq_emod_of_nonneg (by omega)]; omega
  by_cases h0 : (L.length + k) % 8 = 0
  · have ht0 : ((L.length : Int) + (k : Int)).tmod 8 = 0 := by rw [ht, h0]; rfl
    have he := r8_eq _ _ hk h0
    have hkk : r8 L.length - L.length = k := by omega
    simp [F358_spindleref9_padded_b0, hwl, ht0, FinW]
    exact ⟨id', by rw [hkk]; exact hB, hK, hid⟩
  · have ht0 : ¬ ((L.length : Int) + (k : Int)).tmod 8 = 0 := by rw [ht]; omega
    have hk1 := r8_le _ _ hk h0
    simp [F358_spindleref9_padded_b0, hwl, ht0, fillV, lay, reps, ofDs]
    refine hB.app (M := [0]) (hK.floor.trans hf) (vwV_one (b := 0) (by omega)) (by simp; omega) ?_
    intro s2 v2 id2 hB2 hK2 hid2
    simp
    refine ⟨r8 L.length - L.length - (k + 1), by omega, (hJ _ _ _).2 ⟨k + 1, v2, id2, hk1, rfl, by simp, ?_, ?_, ?_⟩⟩
    · rw [List.replicate_succ', ← List.append_assoc]
      exact hB2
    · have := (hK.mono (R' := fun i => i = id ∨ st.heap.length ≤ i) (T' := fun _ => False) (fun _ _ e => .inl e) fun _ _ h => h).trans (hK2.mono (R' := fun i => i = id ∨ st.heap.length ≤ i) (T' := fun _ => False) (fun i _ e => by rw [e]; exact hid) fun _ _ h => h)
      exact this.mono (fun i hi e => by omega) fun _ _ h => h
    · have := hK.hlen
      rcases hid2 with e | e
      · rw [e]; exact hid
      · exact .inr (by omega)
end
def nm8Fns : List (Nat × SFn) := [(171, F171_spindleref8_Named)]
section
variable {pr : Prog} (hr : Sub nm8Fns pr) {st : St}
include hr
theorem den_refNamed9 {s : List UInt8} (hl : s.length ≤ 140737488351232) : den pr 171 [.d (.s s)] st = some (.d (.b (okNm s)), st) := by
  refine den_shut (hr.at 0 rfl) rfl rfl (by simp; rfl) ?_
  simp [F171_spindleref8_Named]
  generalize hL : cden pr (.loop _ _ _) _ _ = o
  obtain ⟨J2, hJ2⟩ : ∃ J2 : Out → Prop, ∀ r, J2 r ↔ ((∃ e, r = (.exit 0, e, s0 [] [] 0 0) ∧ e.get 0 = some (.d (.s s)) ∧ s.contains 0 = false) ∨ (∃ e, r = (.ret, e, s0 [] [] 0 0) ∧ e.get 2 = some (.d (.b false)) ∧ s.contains 0 = true)) := ⟨_, fun _ => Iff.rfl⟩
  have key : ∃ r, o = some r ∧ J2 r := by
    rw [← hL]
    obtain ⟨J, hJ⟩ : ∃ J : Nat → Env → St → Prop, ∀ n e z, J n e z ↔ ∃ i : Nat, i ≤ s.length ∧ n = s.length - i ∧ e = [(0, .d (.s s)), (3, .d (.i .i64 (i : Nat)))] ∧ z = s0 [] [] 0 0 ∧ (s.take i).contains 0 = false := ⟨_, fun _ _ _ => Iff.rfl⟩
    refine loop_j J ?_ (n := s.length) ((hJ _ _ _).2 ⟨0, Nat.zero_le _, rfl, by simp, rfl, by simp⟩)
    intro n e z h
    obtain ⟨i, hi, rfl, rfl, rfl, hc⟩ := (hJ _ _ _).1 h
    rcases Nat.lt_or_ge i s.length with hlt | hge
    · obtain ⟨x, hx⟩ : ∃ x, s[i]? = some x := ⟨_, List.getElem?_eq_getElem hlt⟩
      have w1 : IntKind.wrap .i64 ((i : Int) + 1) = i + 1 := wrap_i64 (by omega) (by omega)
      by_cases h0 : x = 0
      · subst h0
        have hm : s.contains 0 = true := by rw [List.contains_eq_mem]; exact decide_eq_true (List.mem_of_getElem? hx)
        have hxe : s[i] = 0 := (List.getElem?_eq_some_iff.1 hx).2
        simp [F171_spindleref8_Named_b0, hlt, idxSV, hxe]
        exact (hJ2 _).2 (.inr ⟨_, rfl, by simp, hm⟩)
      · have hxn : ¬ (x.toNat = 0) := by
          intro e
          apply h0
          have : x.toNat = (0 : UInt8).toNat := by simpa using e
          exact UInt8.toNat_inj.1 this
        have hxe : s[i] = x := (List.getElem?_eq_some_iff.1 hx).2
        simp [F171_spindleref8_Named_b0, hlt, idxSV, hxe, hxn, w1]
        refine ⟨s.length - (i + 1), by omega, (hJ _ _ _).2 ⟨i + 1, by omega, rfl, rfl, rfl, ?_⟩⟩
        rw [take_snoc hx]
        simp only [List.contains_eq_mem, decide_eq_false_iff_not, List.mem_append, List.mem_singleton, not_or] at hc ⊢
        exact ⟨hc, fun e => h0 e.symm⟩
    · have : i = s.length := by omega
      subst this
      simp [F171_spindleref8_Named_b0]
      rw [List.take_length] at hc
      exact (hJ2 _).2 (.inl ⟨_, rfl, by simp, hc⟩)
  obtain ⟨r, rfl, key⟩ := key
  rcases (hJ2 _).1 key with ⟨e, rfl, e0, hc⟩ | ⟨e, rfl, e2, hc⟩
  · have hok : okNm s = (decide (1 ≤ s.length) && decide (s.length ≤ 64)) := by
      unfold okNm
      rw [hc]
      simp
      rfl
    by_cases h1 : 1 ≤ s.length
    · have h1' : (1 : Int) ≤ s.length := by omega
      by_cases h2 : s.length ≤ 64
      · have h2' : (s.length : Int) ≤ 64 := by omega
        simp [e0, h1', h2', hok, h1, h2]
      · have h2' : ¬ (s.length : Int) ≤ 64 := by omega
        simp [e0, h1', h2', hok, h1, h2]
    · have h1' : ¬ (1 : Int) ≤ s.length := by omega
      simp [e0, h1', hok, h1]
  · have hok : okNm s = false := by
      unfold okNm
      rw [hc]
      simp
    simp [e2, hok]
end
section
variable {pr : Prog} (hr : Sub rwFns pr) (h8 : Sub nm8Fns pr) {st : St}
include hr h8
theorem den_May9 {s : Sec} (hl : s.nm.length ≤ 140737488351232) : den pr 361 [.agg (ofDs s.cells)] st = some (.d (.b (mayS s)), st) := by
  refine den_shut (hr.at 7 rfl) rfl rfl (by simp; rfl) ?_
  obtain ⟨nm, ty, fl, li, inf, al, es, data, nz⟩ := s
  have hN := fun st => den_refNamed9 h8 (st := st) hl
  simp only at hN
  have e1 : ∀ x : Int, decide (x < 4294967296) = decide (x ≤ 4294967295) := fun x => by rw [decide_eq_decide]; omega
  cases h0 : okNm nm with
  | false => simp [F361_spindleref9_May, Sec.cells, ofDs, mkV, hN, h0, mayS]
  | true =>
    by_cases c1 : 0 ≤ ty
    case neg => simp [F361_spindleref9_May, Sec.cells, ofDs, mkV, hN, h0, mayS, smallI, e1, c1]
    by_cases c2 : ty ≤ 4294967295
    case neg => simp [F361_spindleref9_May, Sec.cells, ofDs, mkV, hN, h0, mayS, smallI, e1, c1, c2]
    by_cases c3 : 0 ≤ fl
    case neg => simp [F361_spindleref9_May, Sec.cells, ofDs, mkV, hN, h0, mayS, smallI, e1, c1, c2, c3]
    by_cases c4 : 0 ≤ al
    case neg => simp [F361_spindleref9_May, Sec.cells, ofDs, mkV, hN, h0, mayS, smallI, e1, c1, c2, c3, c4]
    by_cases c5 : 0 ≤ es
    case neg => simp [F361_spindleref9_May, Sec.cells, ofDs, mkV, hN, h0, mayS, smallI, e1, c1, c2, c3, c4, c5]
    by_cases c6 : 0 ≤ li
    case neg => simp [F361_spindleref9_May, Sec.cells, ofDs, mkV, hN, h0, mayS, smallI, e1, c1, c2, c3, c4, c5, c6]
    by_cases c7 : li ≤ 4294967295
    case neg => simp [F361_spindleref9_May, Sec.cells, ofDs, mkV, hN, h0, mayS, smallI, e1, c1, c2, c3, c4, c5, c6, c7]
    by_cases c8 : 0 ≤ inf
    case neg => simp [F361_spindleref9_May, Sec.cells, ofDs, mkV, hN, h0, mayS, smallI, e1, c1, c2, c3, c4, c5, c6, c7, c8]
    by_cases c9 : inf ≤ 4294967295
    case neg => simp [F361_spindleref9_May, Sec.cells, ofDs, mkV, hN, h0, mayS, smallI, e1, c1, c2, c3, c4, c5, c6, c7, c8, c9]
    simp [F361_spindleref9_May, Sec.cells, ofDs, mkV, hN, h0, mayS, smallI, e1, c1, c2, c3, c4, c5, c6, c7, c8, c9]
end
end Go.Sh
