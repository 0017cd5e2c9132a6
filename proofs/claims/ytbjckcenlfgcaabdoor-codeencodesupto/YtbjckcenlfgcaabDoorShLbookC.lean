/- Books: the lists that lie untouched are written over. -/
import Derived.Test.YtbjckcenlfgcaabDoorShLbookB
set_option linter.unusedVariables false
set_option linter.unusedSimpArgs false
namespace Go.Sh
theorem bytes_set (L : List UInt8) (k : Nat) (x : UInt8) : ofDs (byteCells (L.set k x)) = (ofDs (byteCells L)).set k (.d (.i .u8 x.toNat)) := by simp [ofDs, byteCells, List.map_set]
/-- A byte written into a list. -/
theorem LR.put1 {st : St} {v : V} {n : Nat} {L : List UInt8} {j : Option Nat} (h : LR st 1 v n (ofDs (byteCells L)) j) {k : Nat} (hk : k < n) (x : UInt8) : ∃ j0 c, j = some j0 ∧ iaddrV 1 v (.d (.i .i64 (k : Int))) = some (.ptr j0 k) ∧ st.row j0 = some c ∧ k + 1 ≤ c.length ∧
    LR (st.put j0 (lay c k [.d (.i .u8 x.toNat)])) 1 v n (ofDs (byteCells (L.set k x))) j ∧ Gr st (st.put j0 (lay c k [.d (.i .u8 x.toNat)])) (fun r => j = some r) (fun _ => True) := by
  have hl : (ofDs (byteCells L)).length = n := by simpa using h.1
  obtain ⟨j0, h1, h2⟩ := h.iaddr (k := .i64) hk
  obtain ⟨h0, ⟨rfl, _⟩ | ⟨j1, cap, tail, rfl, rfl, hc, hrow, ht⟩⟩ := h
  · cases h1
  · obtain rfl := Option.some.inj h1
    have hlt : k < (ofDs (byteCells L) ++ tail).length := by rw [List.length_append]; omega
    have hlay : lay (ofDs (byteCells L) ++ tail) k [.d (.i .u8 x.toNat)] = ofDs (byteCells (L.set k x)) ++ tail := by
      rw [bytes_set, ← List.set_append_left _ _ (by omega)]
      unfold lay
      rw [List.set_eq_take_append_cons_drop, if_pos hlt]
      simp
    refine ⟨j1, _, rfl, by simpa using h2, hrow, by omega, ?_, ?_⟩
    · rw [hlay]
      refine ⟨by simpa [ofDs, byteCells] using h0, .inr ⟨j1, cap, tail, rfl, rfl, hc, row_put_eq (row_lt hrow), ht⟩⟩
    · exact .put hrow (by rw [hlay]; simp [ofDs, byteCells]) rfl fun _ _ _ => .inr trivial
/-- What the lists hold while they are written over. -/
structure W2 (st s : St) (b : Bk) (i : Nat) : Prop where
  gr : Gr st s (fun r => ∃ (t : Nat) (x : Option Nat × V × List UInt8), b.fr[t]? = some x ∧ x.1 = some r) (fun _ => True)
  fr : ∀ (t : Nat) (x : Option Nat × V × List UInt8), b.fr[t]? = some x → LR s 1 x.2.1 x.2.2.length (ofDs (byteCells (if t < i then markL (b.marks.getD t 0) x.2.2.length else x.2.2))) x.1
def mix (A L : List UInt8) (k : Nat) : List UInt8 := A.take k ++ L.drop k
theorem mix_succ {A L : List UInt8} {k : Nat} {x : UInt8} (hl : A.length = L.length) (h : A[k]? = some x) : (mix A L k).set k x = mix A L (k + 1) := by
  have hk := (List.getElem?_eq_some_iff.1 h).1
  unfold mix
  have h1 : (A.take k).length = k := by rw [List.length_take]; omega
  rw [List.set_append_right _ _ (by omega), h1, Nat.sub_self, List.take_add_one, h, List.append_assoc]
  congr 1
  rw [List.drop_eq_getElem_cons (by omega)]
  rfl
section
variable {pr : Prog} (hp : Sub bookFns pr) {st : St} {p : Nat} {b : Bk}
include hp
theorem loopA (h : BkI st p b) {Q : Out → Prop} (hQ : ∀ e s, e.get 0 = some (.ptr p 0) → W2 st s b b.fr.length → Q (.exit 0, e, s)) : CodeW pr (.loop [0, 2] false F130_spindlelaw0_Book_write_b0) [(0, .ptr p 0), (2, .d (.i .i64 0))] st Q := by
  have hsm := h.small.1
  have hml : b.marks.length = b.fr.length := by simpa using h.M.1
  -- rows that stay
  have hkeep : ∀ {s : St} {i : Nat}, W2 st s b i → ∀ a : Nat, a ≤ 5 → ∀ r, b.lab p a = some r → r < st.heap.length → s.row r = st.row r := by
    intro s i hw a ha r hr hlt
    refine hw.gr.keep r hlt ?_
    rintro ⟨t, x, hx, hx1⟩
    have : b.lab p (t + 6) = some r := by simp [Bk.lab, hx, hx1]
    have := h.sep a (t + 6) r hr this
    omega
  refine loopW_j wBook (fun n e s => ∃ i, i ≤ b.fr.length ∧ n = b.fr.length - i ∧ e = [(0, .ptr p 0), (2, .d (.i .i64 i))] ∧ W2 st s b i) ?_ (n := b.fr.length) ⟨0, Nat.zero_le _, rfl, by simp, .refl _ _ _, fun t x hx => by rw [if_neg (by omega)]; exact h.fr x (List.mem_of_getElem? hx)⟩
  rintro n e s ⟨i, hi, rfl, rfl, hw⟩
  have hrow : s.row p = some [.d (.i .i64 b.count), .d (.i .i64 b.total), .d (.b false), b.F, b.H, b.M, b.K, b.W] := (hkeep hw 0 (by omega) p rfl (row_lt h.row)).trans h.row
  have hF : LR s 1 b.F b.fr.length (b.fr.map fun x => x.2.1) b.jF := h.F.row fun r hr => hkeep hw 1 (by omega) r hr (h.F.lt hr)
  have hM : LR s 1 b.M b.fr.length (b.marks.map fun m => .d (.i .i64 m)) b.jM := h.M.row fun r hr => hkeep hw 3 (by omega) r hr (h.M.lt hr)
  have hlen := hF.len
  rcases Nat.lt_or_ge i b.fr.length with hlt | hge
  · obtain ⟨x, hx⟩ : ∃ x, b.fr[i]? = some x := ⟨_, List.getElem?_eq_getElem hlt⟩
    obtain ⟨m, hm⟩ : ∃ m, b.marks[i]? = some m := ⟨_, List.getElem?_eq_getElem (by omega)⟩
    obtain ⟨jF, cF, hjF, f1, f2, f3, f4⟩ := hF.get i (x := x.2.1) (by simp [hx]) (k := .i64)
    obtain ⟨jM, cM, hjM, m1, m2, m3, m4⟩ := hM.get i (x := .d (.i .i64 m)) (by simp [hm]) (k := .i64)
    have hxl := (hw.fr i x hx).len
    have hsz := h.size x (List.mem_of_getElem? hx)
    have hmk := fun s => den_marked hp (st := s) x.2.2.length m hsz
    have h1 : IntKind.wrap .i64 ((i : Int) + 1) = i + 1 := wrap_i64 (by omega) (by omega)
    generalize hA : markL m x.2.2.length = A at *
    have hAl : A.length = x.2.2.length := by rw [← hA, markL_len]
    have hmi : b.marks.getD i 0 = m := by simp [List.getD, hm]
    simp [F130_spindlelaw0_Book_write_b0, wBook, hrow, hlen, hlt, f1, f2, f3, f4, m1, m2, m3, m4, hxl, hmk]
    have hwi := hw.fr i x hx
    rw [if_neg (by omega)] at hwi
    have hAd := bsl_d true A
    have hother : ∀ r, x.1 = some r → ∀ a, a ≤ 5 → b.lab p a ≠ some r := by
      intro r hr a ha e
      have := h.sep a (i + 6) r e (by simp [Bk.lab, hx, hr])
      omega
    refine loopW_j wBook (fun n e s' => ∃ k, k ≤ x.2.2.length ∧ n = x.2.2.length - k ∧ e = [(0, .ptr p 0), (2, .d (.i .i64 i)), (3, bsl true A), (4, .d (.i .i64 k))] ∧ Gr s s' (fun r => x.1 = some r) (fun _ => True) ∧ LR s' 1 x.2.1 x.2.2.length (ofDs (byteCells (mix A x.2.2 k))) x.1) ?_ (n := x.2.2.length)
      ⟨0, Nat.zero_le _, rfl, by simp, .refl _ _ _, by simpa [mix] using hwi⟩
    rintro n e s' ⟨k, hk, rfl, rfl, hg, hl⟩
    have hrow' : s'.row p = some [.d (.i .i64 b.count), .d (.i .i64 b.total), .d (.b false), b.F, b.H, b.M, b.K, b.W] :=
      (hg.keep p (row_lt hrow) fun e => hother p e 0 (by omega) rfl).trans hrow
    have hF' : s'.row jF = some cF := (hg.keep jF (row_lt f2) fun e => hother jF e 1 (by omega) hjF).trans f2
    have hfl' : s'.floor = 0 := by rw [hg.floor, hw.gr.floor]; exact h.fl
    rcases Nat.lt_or_ge k x.2.2.length with hkl | hkg
    · obtain ⟨y, hy⟩ : ∃ y, A[k]? = some y := ⟨_, List.getElem?_eq_getElem (by omega)⟩
      obtain ⟨j0, c, hj0, a1, a2, a3, a4, a5⟩ := hl.put1 hkl y
      rw [mix_succ hAl hy] at a4
      have hia := hAd.iaddr (i := (k : Int)) (k := .i64) (by omega) (by simp; omega)
      have hld := fun st => hAd.load (st := st) (i := k) (o := 0) (n := 1) (agg := false) (el := byC y) (by simp [hy]) (by omega) (by omega)
      simp [byC, ofDs] at hia hld
      have hset : s'.setBlk j0 (.row (lay c k [.d (.i .u8 y.toNat)])) = some (s'.put j0 (lay c k [.d (.i .u8 y.toNat)])) := setBlk_put hfl'
      have h2 : IntKind.wrap .i64 ((k : Int) + 1) = k + 1 := wrap_i64 (by omega) (by omega)
      have hkA : k < A.length := by omega
      simp [F130_spindlelaw0_Book_write_b1, hrow', hF', f1, f3, f4, hia, hld, a1, a2, a3, hset, h2, hkA]
      exact ⟨x.2.2.length - (k + 1), by omega, k + 1, by omega, rfl, rfl, hg.trans a5, a4⟩
    · have hke : k = x.2.2.length := by omega
      subst hke
      simp [F130_spindlelaw0_Book_write_b1, hAl, h1]
      refine ⟨b.fr.length - (i + 1), by omega, i + 1, by omega, rfl, rfl, hw.gr.trans (hg.mono (fun r _ hr => ⟨i, x, hx, hr⟩) fun _ _ => trivial), ?_⟩
      intro t y hy
      by_cases hti : t = i
      · subst hti
        rw [hx] at hy
        obtain rfl := Option.some.inj hy
        rw [if_pos (by omega), hmi, hA]
        have : mix A x.2.2 x.2.2.length = A := by
          unfold mix
          rw [List.drop_length, List.append_nil, List.take_of_length_le (by omega)]
        rw [this] at hl
        exact hl
      · have ht := hw.fr t y hy
        have hcond : (t < i + 1) = (t < i) := by apply propext; omega
        rw [show (if t < i + 1 then markL (b.marks.getD t 0) y.2.2.length else y.2.2) = (if t < i then markL (b.marks.getD t 0) y.2.2.length else y.2.2) by simp only [hcond]]
        refine ht.gr hg fun r hr hxr => ?_
        have := h.sep (t + 6) (i + 6) r (by simp [Bk.lab, hy, hr]) (by simp [Bk.lab, hx, hxr])
        omega
  · have : i = b.fr.length := by omega
    subst this
    simp [F130_spindlelaw0_Book_write_b0, hrow, hlen]
    exact hQ _ _ (by simp) hw
end
end Go.Sh
