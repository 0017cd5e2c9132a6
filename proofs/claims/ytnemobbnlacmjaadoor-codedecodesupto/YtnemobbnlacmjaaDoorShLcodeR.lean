/- Bytes with other contents (spindlelaw3.TurnedBytes). -/
import Derived.Test.YtnemobbnlacmjaaDoorShLcodeQ
import Derived.Test.YtnemobbnlacmjaaDoorShLbook1
import Derived.Test.YtnemobbnlacmjaaDoorShShelf
set_option linter.unusedVariables false
set_option linter.unusedSimpArgs false
namespace Go.Sh
def turnBFns : List (Nat × SFn) := [(225, F225_spindlelaw0_CopyBytes_row), (212, F212_spindlelaw3_TurnedBytes)]
theorem LR.escB {s : St} {sz n : Nat} {v : V} {F : List D} {j : Option Nat} (h : LR s sz v n (ofDs F) j) : ∃ nz, Go.Sh.esc s 0 0 v = some (.d (.sl n nz F)) := by
  obtain ⟨h0, ⟨rfl, rfl, rfl⟩ | ⟨j0, cap, tail, rfl, rfl, h1, h2, h3⟩⟩ := h
  · have : F = [] := by
      cases F with
      | nil => rfl
      | cons a l => simp [ofDs] at h0
    subst this
    exact ⟨false, rfl⟩
  · refine ⟨true, ?_⟩
    have hl : n * sz ≤ (ofDs F ++ tail).length := by rw [List.length_append]; omega
    have ht : (ofDs F ++ tail).take (n * sz) = ofDs F := by rw [← h0]; exact List.take_left' rfl
    simp [Go.Sh.esc, esc1, escC, cellsAt, h2, hl, ht, toDs_of]
    omega
/-- A beginning is written over. -/
theorem LR.cpyB {s : St} {v : V} {n : Nat} {L X : List UInt8} {nz : Bool} {j : Option Nat} (hf : s.floor = 0) (h : LR s 1 v n (ofDs (byteCells L)) j) (hX : X.length ≤ n) : ∃ s', cpyV 1 s v (bsl nz X) = some (.d (.i .i64 (X.length : Int)), s') ∧ LR s' 1 v n (ofDs (byteCells (X ++ L.drop X.length))) j ∧ s'.floor = 0 := by
  have hl : L.length = n := by have := h.1; simpa [ofDs, byteCells] using this
  obtain ⟨h0, ⟨rfl, rfl, rfl⟩ | ⟨j0, cap, tail, rfl, rfl, h1, h2, h3⟩⟩ := h
  · have e1 : X = [] := List.eq_nil_of_length_eq_zero (by omega)
    have e2 : L = [] := List.eq_nil_of_length_eq_zero hl
    subst e1
    subst e2
    exact ⟨s, rfl, ⟨rfl, .inl ⟨rfl, rfl, rfl⟩⟩, hf⟩
  · have hXl : (byteCells X).length = X.length := by simp [byteCells]
    have hLl : (byteCells L).length = L.length := by simp [byteCells]
    have hlay : lay (ofDs (byteCells L) ++ tail) 0 (ofDs (byteCells X)) = ofDs (byteCells (X ++ L.drop X.length)) ++ tail := by
      unfold lay
      rw [List.take_zero, List.nil_append, Nat.zero_add, ofDs_len, hXl, List.drop_append_of_le_length (by rw [ofDs_len]; omega)]
      simp [ofDs, byteCells]
    have htk : (byteCells X).take X.length = byteCells X := List.take_of_length_le (by omega)
    have hfit : n ≤ L.length + tail.length := by omega
    refine ⟨s.put j0 (ofDs (byteCells (X ++ L.drop X.length)) ++ tail), ?_, ⟨by simp [ofDs, byteCells]; omega, .inr ⟨j0, cap, tail, rfl, rfl, h1, row_put_eq (row_lt h2), h3⟩⟩, hf⟩
    simp [cpyV, h2, Nat.min_eq_left hX, hXl, hLl, htk, hlay, hfit, setBlk_put hf, ofDs_len]
theorem u8_ofB (z : Int) : ∃ y : UInt8, IntKind.wrap .u8 z = y.toNat := by
  have h : 0 ≤ IntKind.wrap .u8 z ∧ IntKind.wrap .u8 z < 256 := by
    simp only [IntKind.wrap, IntKind.bits, IntKind.signed]
    exact ⟨Int.emod_nonneg _ (by decide), Int.emod_lt_of_pos _ (by decide)⟩
  refine ⟨UInt8.ofNat (IntKind.wrap .u8 z).toNat, ?_⟩
  rw [UInt8.toNat_ofNat']
  omega
section
variable {pr : Prog} (hp : Sub turnBFns pr) {st : St}
include hp
theorem callW_copyRowB (hf : st.floor = 0) {nz : Bool} {L : List UInt8} (hl : L.length ≤ 140737488355328) {Q : V → St → Prop} (hQ : ∀ s v j, LR s 1 v L.length (ofDs (byteCells L)) j → s.floor = 0 → Gr st s (fun _ => False) (fun _ => True) → (∀ r, j = some r → st.heap.length ≤ r) → Q v s) : CallW pr 225 [bsl nz L] st Q := by
  refine .run (fun _ => false) (hp.at 0 rfl) rfl ?_
  rw [start_raw _ rfl]
  refine codeC_of ?_
  simp [F225_spindlelaw0_CopyBytes_row, fillV, reps, ofDs]
  refine appW_LR (cells := []) (n := 0) (j := some st.heap.length) (by simpa using hf) ⟨rfl, .inr ⟨st.heap.length, 0, [], rfl, rfl, Nat.le_refl _, by simp, rfl⟩⟩ (show vwV 1 _ (bsl nz L) = some (L.length, ofDs (byteCells L)) from rfl) (by simp [ofDs, byteCells]) rfl (by omega) (by omega) ?_
  intro s1 v1 j1 h1 g1 n1
  rw [Nat.zero_add, List.nil_append] at h1
  simp [FinW]
  refine hQ s1 v1 j1 h1 (g1.floor.trans (by simpa using hf)) ?_ ?_
  · have := (Gr.push (A := fun r => st.heap.length ≤ r) (P := fun _ => True) (st := st) (.row [])).trans (g1.mono (A' := fun r => st.heap.length ≤ r) (fun r hr e => by
      obtain rfl := Option.some.inj e
      exact Nat.le_refl _) fun _ _ => trivial)
    exact this.mono (fun r hr e => by omega) fun _ h => h
  · intro r hr
    rcases n1 with e | ⟨i, e, hi, _⟩
    · rw [e] at hr
      obtain rfl := Option.some.inj hr
      exact Nat.le_refl _
    · rw [e] at hr
      obtain rfl := Option.some.inj hr
      simp at hi
      omega
theorem callW_turnedB {nz : Bool} {L : List UInt8} (hl : L.length ≤ 1099511627776) (t : Int) : CallW pr 212 [bsl nz L, .d (.i .i64 t)] st fun v s => s = st ∧ ∃ L' nz', v = bsl nz' L' ∧ L'.length = L.length := by
  refine .run0 (fun f => f == 225) (hp.at 1 rfl) (as := [bsl nz L, .d (.i .i64 t)]) rfl rfl rfl (codeC_of ?_)
  simp [F212_spindlelaw3_TurnedBytes]
  refine callW_copyRowB hp rfl (by omega) ?_
  intro s v j h hf0 _ _
  have hn := h.len
  have hb : lenV (bsl nz L) = some L.length := rfl
  have fin : ∀ {s' : St} {L' : List UInt8}, LR s' 1 v L.length (ofDs (byteCells L')) j → ∃ nz', esc s' 0 0 v = some (bsl nz' L') ∧ L'.length = L.length := fun {s'} {L'} h' => by
    obtain ⟨nz', he⟩ := h'.escB
    have hl' : L'.length = L.length := by have := h'.1; simpa [ofDs, byteCells] using this
    exact ⟨nz', by rw [he, bsl, hl'], hl'⟩
  by_cases h1 : t = 1
  · subst h1
    by_cases h0 : L.length = 0
    · have h0I : ¬ (0 : Int) < L.length := by omega
      obtain ⟨nz', he, hl'⟩ := fin h
      simp [hn, h0, he, FinW]
      have : L = [] := List.eq_nil_of_length_eq_zero h0
      subst this
      cases nz' <;> simp
    · have h0I : (0 : Int) < L.length := by omega
      have h0n : 0 < L.length := by omega
      obtain ⟨k, hk⟩ : ∃ k, k = L.length / 2 := ⟨_, rfl⟩
      have hdv : (L.length : Int).tdiv 2 = (k : Int) := by rw [hk]; simp [Int.ofNat_tdiv]
      have wk : IntKind.wrap .i64 (k : Int) = k := wrap_i64 (by omega) (by omega)
      obtain ⟨b, hb1⟩ : ∃ b, L[k]? = some b := ⟨_, List.getElem?_eq_getElem (by omega)⟩
      obtain ⟨y, hy⟩ : ∃ y : UInt8, bitI .xor .u8 (b.toNat : Int) 1 = some (.i .u8 (y.toNat : Int)) := by
        obtain ⟨y, hy⟩ := u8_ofB ((BitVec.ofInt (IntKind.bits .u8) (b.toNat : Int) ^^^ BitVec.ofInt (IntKind.bits .u8) 1).toNat : Int)
        exact ⟨y, by rw [← hy]; rfl⟩
      obtain ⟨j0, c, hj0, a1, a2, a3, a4, a5⟩ := h.put1 (k := k) (by omega) y
      have a6 : (c.drop k).take 1 = [V.d (.i .u8 (b.toNat : Int))] := by
        obtain ⟨tail, ht⟩ := h.inRow hj0
        rw [a2] at ht
        obtain rfl := Option.some.inj ht
        have hlb : k < (ofDs (byteCells L)).length := by simp [ofDs, byteCells]; omega
        rw [List.drop_append_of_le_length (by omega), List.take_append_of_le_length (by rw [List.length_drop]; omega), List.drop_eq_getElem_cons hlb]
        simp [ofDs, byteCells]
        have := (List.getElem?_eq_some_iff.1 hb1).2
        rw [this]
      have hset : ∀ cs, s.setBlk j0 (.row cs) = some (s.put j0 cs) := fun cs => setBlk_put hf0
      obtain ⟨s2, hs2⟩ : ∃ s2, s2 = s.put j0 (lay c k [.d (.i .u8 (y.toNat : Int))]) := ⟨_, rfl⟩
      rw [← hs2] at a4
      obtain ⟨nz', he, hl'⟩ := fin a4
      simp [hn, h0, h0n, hdv, wk, a1, a2, a3, a6, hy, hset, ← hs2, he, FinW]
      exact ⟨_, by cases nz' <;> simp, hl'⟩
  · by_cases h2 : t = 2 ∧ 8 ≤ L.length
    · obtain ⟨rfl, h8⟩ := h2
      have h8I : (8 : Int) ≤ L.length := by omega
      have w8 : IntKind.wrap .i64 ((L.length : Int) - 8) = ((L.length - 8 : Nat) : Int) := by rw [wrap_i64 (by omega) (by omega)]; omega
      obtain ⟨q, hq⟩ : ∃ q, q = L.length - 8 := ⟨_, rfl⟩
      rw [← hq] at w8
      have hsl : slcV 1 (bsl nz L) (some (.d (.i .i64 (q : Int)))) none none = some (bsl nz (L.drop q)) := by
        have := bsl_slc nz L (lo := some (.d (.i .i64 (q : Int)))) (hi := none) (a := q) (b := L.length) rfl rfl (by omega) (by omega)
        simpa using this
      obtain ⟨s2, hc, hl2, hf2⟩ := h.cpyB (nz := nz) (X := L.drop q) hf0 (by simp)
      obtain ⟨nz', he, hl'⟩ := fin hl2
      simp [hn, hb, h8, h8I, w8, hsl, hc, he, FinW]
      exact ⟨_, by cases nz' <;> simp, hl'⟩
    · obtain ⟨nz', he, hl'⟩ := fin h
      by_cases h3 : t = 2
      · subst h3
        have h8 : ¬ 8 ≤ L.length := fun e => h2 ⟨rfl, e⟩
        have h8I : ¬ (8 : Int) ≤ L.length := by omega
        simp [hn, h8, h8I, he, FinW]
        exact ⟨_, by cases nz' <;> simp, hl'⟩
      · simp [hn, h1, h3, he, FinW]
        exact ⟨_, by cases nz' <;> simp, hl'⟩
end
end Go.Sh
