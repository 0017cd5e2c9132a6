/- Lenders that lie within a row (spindlelaw0): bytes lent, and given back. -/
import Derived.Test.YtpgipjjhapapjaaShLlenderB
import Derived.Test.YtpgipjjhapapjaaShLewB
set_option linter.unusedVariables false
set_option linter.unusedSimpArgs false
set_option linter.unusedSectionVars false
namespace Go.Sh
theorem drA0 {α : Type} {A t : List α} {x : α} : ((A ++ x :: t).drop A.length).take 1 = [x] := by rw [List.drop_left' rfl]; rfl
theorem drA1 {α : Type} {A t : List α} {x y : α} : ((A ++ x :: y :: t).drop (A.length + 1)).take 1 = [y] := by rw [← List.drop_drop, List.drop_left' rfl]; rfl
theorem layA0 {α : Type} {A t : List α} {x z : α} : lay (A ++ x :: t) A.length [z] = A ++ z :: t := by
  unfold lay
  rw [List.take_left' rfl, ← List.drop_drop, List.drop_left' rfl]
  simp
theorem layA1 {α : Type} {A t : List α} {x y z : α} : lay (A ++ x :: y :: t) (A.length + 1) [z] = A ++ x :: z :: t := by
  unfold lay
  have e1 : (A ++ x :: y :: t).take (A.length + 1) = A ++ [x] := by rw [List.take_append, List.take_of_length_le (by omega), show A.length + 1 - A.length = 1 by omega]; rfl
  have e2 : (A ++ x :: y :: t).drop (A.length + 1 + [z].length) = t := by rw [List.drop_append, List.drop_of_length_le (by simp only [List.length_cons, List.length_nil]; omega), show A.length + 1 + [z].length - A.length = 2 by simp only [List.length_cons, List.length_nil]; omega]; rfl
  rw [e1, e2]
  simp
theorem leA0 {α : Type} {A t : List α} {x : α} : A.length + 1 ≤ (A ++ x :: t).length := by simp only [List.length_append, List.length_cons]; omega
theorem leA2 {a e : Nat} : a + 1 + 1 ≤ a + (e + 1 + 1) := by omega
theorem leA3 {a e : Nat} : a + 1 ≤ a + (e + 1 + 1) := by omega
theorem leA1 {α : Type} {A t : List α} {x y : α} : A.length + 1 + 1 ≤ (A ++ x :: y :: t).length := by simp only [List.length_append, List.length_cons]; omega
/-- A lender in a row, behind these cells, and ahead of those. -/
def LnO (st : St) (p : Nat) (A E : List V) (B : V) (N : Int) (j : Option Nat) : Prop := st.floor = 0 ∧ st.row p = some (A ++ B :: .d (.i .i64 N) :: E) ∧ ((j = none ∧ B = .d (.sl 0 false [])) ∨ ∃ r c, j = some r ∧ B = .rsl 1 r 0 c.length c.length ∧ st.row r = some c ∧ r ≠ p)
structure LentO (st : St) (p : Nat) (A E : List V) (r : Nat) (L : List UInt8) (c : List V) : Prop where
  fl : st.floor = 0
  row : st.row p = some (A ++ .rsl 1 r 0 c.length c.length :: .d (.i .i64 L.length) :: E)
  buf : st.row r = some (wrow (lcell L) c (2 * L.length + 70))
  len : 2 * L.length + 70 ≤ c.length
  ne : r ≠ p
theorem LentO.bv {st : St} {p r : Nat} {A E : List V} {L : List UInt8} {c : List V} (h : LentO st p A E r L c) (cap : Nat) (hc : L.length ≤ cap) : BV st (.rsl 1 r 0 L.length cap) L := by
  refine .inr ⟨r, 0, cap, _, rfl, hc, h.buf, ?_, ?_⟩
  · rw [wrow_len h.len]
    have := h.len
    omega
  · rw [List.drop_zero, wrow_take (by omega), lcell_bytes]
section
variable {pr : Prog} (hd : Sub lendFns pr) {st : St} {A E : List V}
include hd
omit hd in
theorem lend_loop1o {s1 : St} {p r : Nat} {c : List V} {N : Int} {nz : Bool} {L : List UInt8} (hL : L.length ≤ 8589934592) (hfl1 : s1.floor = 0) (hrow1 : s1.row p = some (A ++ .rsl 1 r 0 c.length c.length :: .d (.i .i64 N) :: E)) (hbuf : s1.row r = some c) (hne : r ≠ p) (hcl : 2 * L.length + 70 ≤ c.length) :
    ∃ e, cden pr (.loop [0, 1, 5] false F169_spindlelaw0_Lender_Lend_b0) [(0, .ptr p A.length), (1, bsl nz L), (5, .d (.i .i64 0))] s1 = some (.exit 0, e, s1.put r (wrow (lcell L) c L.length)) ∧ e.get 0 = some (.ptr p A.length) ∧ e.get 1 = some (bsl nz L) := by
  have hrl := row_lt hbuf
  have hbl : lenV (bsl nz L) = some L.length := rfl
  have hst : ∀ i, (s1.put r (wrow (lcell L) c i)).row p = some (A ++ .rsl 1 r 0 c.length c.length :: .d (.i .i64 N) :: E) := fun i => by rw [row_put_ne (Ne.symm hne)]; exact hrow1
  have hsr : ∀ i, (s1.put r (wrow (lcell L) c i)).row r = some (wrow (lcell L) c i) := fun i => row_put_eq hrl
  have hset : ∀ i cs, (s1.put r (wrow (lcell L) c i)).setBlk r (.row cs) = some (s1.put r cs) := fun i cs => by rw [setBlk_put (by simpa using hfl1), put_put]
  have h0 : s1 = s1.put r (wrow (lcell L) c 0) := by rw [wrow_zero, put_self hbuf]
  suffices h : ∃ r1, cden pr (.loop [0, 1, 5] false F169_spindlelaw0_Lender_Lend_b0) [(0, .ptr p A.length), (1, bsl nz L), (5, .d (.i .i64 0))] s1 = some r1 ∧ ∃ e, r1 = (.exit 0, e, s1.put r (wrow (lcell L) c L.length)) ∧ e.get 0 = some (.ptr p A.length) ∧ e.get 1 = some (bsl nz L) by
    obtain ⟨_, h1, e, rfl, h2⟩ := h
    exact ⟨e, h1, h2⟩
  refine loop_n L.length (fun i => [(0, .ptr p A.length), (1, bsl nz L), (5, .d (.i .i64 (i : Nat)))]) (fun i => s1.put r (wrow (lcell L) c i)) ?_ (by simp) h0
  intro i hi
  rcases Nat.lt_or_ge i L.length with hlt | hge
  · obtain ⟨b, hb⟩ : ∃ b, L[i]? = some b := ⟨_, List.getElem?_eq_getElem hlt⟩
    have hia := iaddr_row (size := 1) (sz := 1) (id := r) (off := 0) (n := c.length) (cap := c.length) (k := .i64) (i := i) (by omega)
    simp at hia
    obtain ⟨g1, g2⟩ := bsl_iaddr (nz := nz) hb (k := .i64)
    obtain ⟨P, hP⟩ : ∃ P, P = V.ep ((byteCells L).drop i) := ⟨_, rfl⟩
    rw [← hP] at g1 g2
    have hw := wrow_step (f := lcell L) (c := c) (i := i) (by omega)
    have hlc : lcell L i = .d (.i .u8 b.toNat) := by simp [lcell, hb]
    rw [hlc] at hw
    have hwl := wrow_len (f := lcell L) (c := c) (i := i) (by omega)
    have h1 : IntKind.wrap .i64 ((i : Int) + 1) = i + 1 := wrap_i64 (by omega) (by omega)
    have hlt2 : i + 1 ≤ c.length := by omega
    simp [F169_spindlelaw0_Lender_Lend_b0, drA0, drA1, leA0, leA1, leA2, leA3, hlt, hst i, hsr i, hia, g1, g2, hset, hw, hwl, h1, hlt2]
  · have : i = L.length := by omega
    subst this
    simp [F169_spindlelaw0_Lender_Lend_b0]
theorem lend_loop2o {s1 : St} {p r : Nat} {c : List V} {N : Int} {nz : Bool} {L : List UInt8} (hL : L.length ≤ 8589934592) (hfl1 : s1.floor = 0) (hrow1 : s1.row p = some (A ++ .rsl 1 r 0 c.length c.length :: .d (.i .i64 N) :: E)) (hbuf : s1.row r = some c) (hne : r ≠ p) (hcl : 2 * L.length + 70 ≤ c.length) :
    ∃ e, cden pr (.loop [0, 1, 6] false F169_spindlelaw0_Lender_Lend_b1) [(0, .ptr p A.length), (1, bsl nz L), (6, .d (.i .i64 L.length))] (s1.put r (wrow (lcell L) c L.length)) = some (.exit 2, e, s1.put r (wrow (lcell L) c (2 * L.length + 70))) ∧ e.get 0 = some (.ptr p A.length) ∧ e.get 1 = some (bsl nz L) := by
  have hrl := row_lt hbuf
  have hbl : lenV (bsl nz L) = some L.length := rfl
  have w1 : IntKind.wrap .i64 (2 * (L.length : Int)) = 2 * L.length := wrap_i64 (by omega) (by omega)
  have w2 : IntKind.wrap .i64 (2 * (L.length : Int) + 70) = 2 * L.length + 70 := wrap_i64 (by omega) (by omega)
  have hmk := fun x i st => den_mark hd (st := st) x i
  have hst : ∀ i, (s1.put r (wrow (lcell L) c i)).row p = some (A ++ .rsl 1 r 0 c.length c.length :: .d (.i .i64 N) :: E) := fun i => by rw [row_put_ne (Ne.symm hne)]; exact hrow1
  have hsr : ∀ i, (s1.put r (wrow (lcell L) c i)).row r = some (wrow (lcell L) c i) := fun i => row_put_eq hrl
  have hset : ∀ i cs, (s1.put r (wrow (lcell L) c i)).setBlk r (.row cs) = some (s1.put r cs) := fun i cs => by rw [setBlk_put (by simpa using hfl1), put_put]
  suffices h : ∃ r1, cden pr (.loop [0, 1, 6] false F169_spindlelaw0_Lender_Lend_b1) [(0, .ptr p A.length), (1, bsl nz L), (6, .d (.i .i64 L.length))] (s1.put r (wrow (lcell L) c L.length)) = some r1 ∧ ∃ e, r1 = (.exit 2, e, s1.put r (wrow (lcell L) c (2 * L.length + 70))) ∧ e.get 0 = some (.ptr p A.length) ∧ e.get 1 = some (bsl nz L) by
    obtain ⟨_, h1, e, rfl, h2⟩ := h
    exact ⟨e, h1, h2⟩
  obtain ⟨S, hS⟩ : ∃ S : Nat → St, ∀ i, S i = s1.put r (wrow (lcell L) c (L.length + i)) := ⟨_, fun _ => rfl⟩
  refine loop_n (L.length + 70) (fun i => [(0, .ptr p A.length), (1, bsl nz L), (6, .d (.i .i64 ((L.length : Int) + (i : Int))))]) S ?_ (by simp) (by rw [hS]; rfl)
  intro i hi
  have hst' : (S i).row p = some (A ++ .rsl 1 r 0 c.length c.length :: .d (.i .i64 N) :: E) := by rw [hS]; exact hst _
  have hsr' : (S i).row r = some (wrow (lcell L) c (L.length + i)) := by rw [hS]; exact hsr _
  rcases Nat.lt_or_ge i (L.length + 70) with hlt | hge
  · have hia := iaddr_row (size := 1) (sz := 1) (id := r) (off := 0) (n := c.length) (cap := c.length) (k := .i64) (i := L.length + i) (by omega)
    simp at hia
    have hw := wrow_step (f := lcell L) (c := c) (i := L.length + i) (by omega)
    have hlc : lcell L (L.length + i) = .d (.i .u8 (lmk (L.length + i))) := by simp [lcell]
    rw [hlc] at hw
    have hwl := wrow_len (f := lcell L) (c := c) (i := L.length + i) (by omega)
    have h1 : IntKind.wrap .i64 ((L.length : Int) + (i : Int) + 1) = (L.length : Int) + (i + 1) := by rw [wrap_i64 (by omega) (by omega)]; omega
    have hlt2 : L.length + i + 1 ≤ c.length := by omega
    have hlt3 : (L.length : Int) + i < 2 * L.length + 70 := by omega
    have hmk1 := fun st => hmk (.ptr p A.length) (L.length + i) st
    simp at hmk1
    have hset' : (S i).setBlk r (.row (lay (wrow (lcell L) c (L.length + i)) (L.length + i) [.d (.i .u8 (lmk (L.length + i)))])) = some (S (i + 1)) := by rw [hw, hS, hset, hS]; rfl
    simp [F169_spindlelaw0_Lender_Lend_b1, drA0, drA1, leA0, leA1, leA2, leA3, w1, w2, hlt3, hst', hsr', hia, hmk1, hset', hwl, h1, hlt2, hlt]
  · have : i = L.length + 70 := by omega
    subst this
    have hlt3 : ¬ ((L.length : Int) + (L.length + 70) < 2 * L.length + 70) := by omega
    have h2 : S (L.length + 70) = s1.put r (wrow (lcell L) c (2 * L.length + 70)) := by rw [hS, show L.length + (L.length + 70) = 2 * L.length + 70 by omega]
    simp [F169_spindlelaw0_Lender_Lend_b1, drA0, drA1, leA0, leA1, leA2, leA3, w1, w2, hlt3, h2]
theorem den_LendO {p : Nat} {B : V} {N : Int} {j : Option Nat} (h : LnO st p A E B N j) {nz : Bool} {L : List UInt8} (hL : L.length ≤ 8589934592) (hc : ∀ r c, st.row r = some c → B = .rsl 1 r 0 c.length c.length → c.length ≤ 274877906944) :
    ∃ st' r c, den pr 169 [.ptr p A.length, bsl nz L] st = some (.rsl 1 r 0 L.length (2 * L.length + 70), st') ∧ LentO st' p A E r L c ∧ (j = some r ∨ st.heap.length ≤ r) ∧ Kp st st' (fun i => i = p ∨ j = some i) (fun _ => False) ∧ c.length ≤ 274877906944 := by
  obtain ⟨hfl, hrow, hB⟩ := h
  have hbl : lenV (bsl nz L) = some L.length := rfl
  have w1 : IntKind.wrap .i64 (2 * (L.length : Int)) = 2 * L.length := wrap_i64 (by omega) (by omega)
  have w2 : IntKind.wrap .i64 (2 * (L.length : Int) + 70) = 2 * L.length + 70 := wrap_i64 (by omega) (by omega)
  have w3 : IntKind.wrap .i64 (4 * (L.length : Int)) = 4 * L.length := wrap_i64 (by omega) (by omega)
  have w4 : IntKind.wrap .i64 (4 * (L.length : Int) + 512) = 4 * L.length + 512 := wrap_i64 (by omega) (by omega)
  obtain ⟨Q, hQ⟩ : ∃ Q : V → St → Prop, ∀ v s', Q v s' ↔ ∃ r c, v = .rsl 1 r 0 L.length (2 * L.length + 70) ∧ LentO s' p A E r L c ∧ (j = some r ∨ st.heap.length ≤ r) ∧ Kp st s' (fun i => i = p ∨ j = some i) (fun _ => False) ∧ c.length ≤ 274877906944 := ⟨_, fun _ _ => Iff.rfl⟩
  suffices hh : Ans Q (den pr 169 [.ptr p A.length, bsl nz L] st) by
    obtain ⟨v, s', e1, e2⟩ := hh.ex
    obtain ⟨r, c, rfl, h2⟩ := (hQ _ _).1 e2
    exact ⟨s', r, c, e1, h2⟩
  -- a buffer that is large enough
  have fin : ∀ (s1 : St) (r : Nat) (c : List V), s1.floor = 0 → s1.row p = some (A ++ .rsl 1 r 0 c.length c.length :: .d (.i .i64 N) :: E) → s1.row r = some c → r ≠ p → 2 * L.length + 70 ≤ c.length → c.length ≤ 274877906944 → (j = some r ∨ st.heap.length ≤ r) → Kp st s1 (fun i => i = p ∨ j = some i) (fun _ => False) →
      (s1.put r (wrow (lcell L) c (2 * L.length + 70))).row p = some (A ++ .rsl 1 r 0 c.length c.length :: .d (.i .i64 N) :: E) ∧ (∀ cs, (s1.put r (wrow (lcell L) c (2 * L.length + 70))).setBlk p (.row cs) = some ((s1.put r (wrow (lcell L) c (2 * L.length + 70))).put p cs)) ∧
      (∀ cs, ((s1.put r (wrow (lcell L) c (2 * L.length + 70))).put p cs).row p = some cs) ∧ slcV 1 (.rsl 1 r 0 c.length c.length) none (some (.d (.i .i64 (L.length : Int)))) (some (.d (.i .i64 (2 * (L.length : Int) + 70)))) = some (.rsl 1 r 0 L.length (2 * L.length + 70)) ∧
      Q (.rsl 1 r 0 L.length (2 * L.length + 70)) ((s1.put r (wrow (lcell L) c (2 * L.length + 70))).put p (A ++ .rsl 1 r 0 c.length c.length :: .d (.i .i64 L.length) :: E)) := by
    intro s1 r c hfl1 hrow1 hbuf hne hcl hcm hj k1
    have hrl := row_lt hbuf
    obtain ⟨s2, hs2⟩ : ∃ s2, s2 = s1.put r (wrow (lcell L) c (2 * L.length + 70)) := ⟨_, rfl⟩
    rw [← hs2]
    have hrow2 : s2.row p = some (A ++ .rsl 1 r 0 c.length c.length :: .d (.i .i64 N) :: E) := by rw [hs2, row_put_ne (Ne.symm hne)]; exact hrow1
    have hbuf2 : s2.row r = some (wrow (lcell L) c (2 * L.length + 70)) := by rw [hs2]; exact row_put_eq hrl
    have hfl2 : s2.floor = 0 := by rw [hs2]; simpa using hfl1
    have hrow3 : ∀ cs, (s2.put p cs).row p = some cs := fun cs => row_put_eq (row_lt hrow2)
    refine ⟨hrow2, fun cs => setBlk_put hfl2, hrow3, ?_, ?_⟩
    · have b1 : (0 : Int) ≤ 2 * L.length + 70 ∧ 2 * (L.length : Int) + 70 ≤ c.length := by omega
      have b2 : (2 * (L.length : Int) + 70).toNat = 2 * L.length + 70 := by omega
      have b4 : (0 : Int) ≤ L.length ∧ (L.length : Int) ≤ ((2 * L.length + 70 : Nat) : Int) := by omega
      simp only [slcV, if_true, bnds, bnd, intV, b1, and_self, b2, b4, Int.toNat_natCast, Option.map_some, Nat.zero_mul, Nat.add_zero, Nat.sub_zero]
    · refine (hQ _ _).2 ⟨r, c, rfl, ⟨hfl2, hrow3 _, ?_, hcl, hne⟩, hj, ?_, hcm⟩
      · rw [row_put_ne hne]
        exact hbuf2
      · have kk : ∀ i, i < st.heap.length → ¬ (i = p ∨ j = some i) → i ≠ p ∧ i ≠ r := fun i hi hn => ⟨fun e => hn (.inl e), fun e => by
          rcases hj with h | h
          · exact hn (.inr (by rw [h, e]))
          · omega⟩
        have q1 : Kp s1 s2 (fun i => i = p ∨ i = r) (fun _ => False) := by rw [hs2]; exact .put (.inr rfl)
        have q2 : Kp s2 (s2.put p (A ++ .rsl 1 r 0 c.length c.length :: .d (.i .i64 L.length) :: E)) (fun i => i = p ∨ i = r) (fun _ => False) := .put (.inl rfl)
        have q3 := q1.trans q2
        refine ⟨q3.floor.trans k1.floor, q3.tfloor.trans k1.tfloor, Nat.le_trans k1.hlen q3.hlen, Nat.le_trans k1.tlen q3.tlen, fun i hi hn => ?_, fun t ht hn => (q3.tips t (Nat.lt_of_lt_of_le ht k1.tlen) hn).trans (k1.tips t ht hn)⟩
        obtain ⟨z1, z2⟩ := kk i hi hn
        exact (q3.heap i (Nat.lt_of_lt_of_le hi k1.hlen) (by rintro (h | h); exact z1 h; exact z2 h)).trans (k1.heap i hi hn)
  rw [den_fn (hd.at 0 rfl) rfl rfl, start_raw _ rfl]
  -- a new buffer
  obtain ⟨C, hC⟩ : ∃ C, C = ofDs (reps (4 * L.length + 512) [D.i .u8 0]) := ⟨_, rfl⟩
  have hcl : C.length = 4 * L.length + 512 := by rw [hC]; simp [ofDs, reps_len]
  obtain ⟨s1, hs1⟩ : ∃ s1, s1 = (st.push (.row C)).put p (A ++ .rsl 1 st.heap.length 0 (4 * L.length + 512) (4 * L.length + 512) :: .d (.i .i64 N) :: E) := ⟨_, rfl⟩
  have hpl := row_lt hrow
  have hroom : room 1 (.d (.i .i64 (4 * (L.length : Int) + 512))) = some (4 * L.length + 512) := by
    simp [room]
    omega
  have hpush : (st.push (.row C)).row p = some (A ++ B :: .d (.i .i64 N) :: E) := by rw [row_old hpl]; exact hrow
  have hset1 : (st.push (.row C)).setBlk p (.row (A ++ .rsl 1 st.heap.length 0 (4 * L.length + 512) (4 * L.length + 512) :: .d (.i .i64 N) :: E)) = some s1 := by rw [hs1]; exact setBlk_put (by simpa using hfl)
  have hfl1 : s1.floor = 0 := by rw [hs1]; simpa using hfl
  have hrow1 : s1.row p = some (A ++ .rsl 1 st.heap.length 0 C.length C.length :: .d (.i .i64 N) :: E) := by rw [hs1, row_put_eq (by simp; omega), hcl]
  have hbuf1 : s1.row st.heap.length = some C := by rw [hs1, row_put_ne (by omega)]; exact row_push_new rfl
  have hne1 : st.heap.length ≠ p := by omega
  obtain ⟨f1, f2, f3, f4, f5⟩ := fin s1 st.heap.length C hfl1 hrow1 hbuf1 hne1 (by omega) (by omega) (.inr (Nat.le_refl _)) (by
    rw [hs1]
    exact (Kp.push _).trans (.put (.inl rfl)))
  obtain ⟨e1, l1, l2, l3⟩ := lend_loop1o (pr := pr) (nz := nz) hL hfl1 hrow1 hbuf1 hne1 (by omega)
  obtain ⟨e2, l4, l5, l6⟩ := lend_loop2o hd (nz := nz) hL hfl1 hrow1 hbuf1 hne1 (by omega)
  rw [hcl] at f1 f4 f5
  rcases hB with ⟨rfl, rfl⟩ | ⟨r, c, rfl, rfl, hbuf, hne⟩
  · have hlt : (0 : Int) < 2 * L.length + 70 := by omega
    simp [F169_spindlelaw0_Lender_Lend, drA0, drA1, leA0, leA1, leA2, leA3, hrow, hbl, w1, w2, hlt, w3, w4, hroom, ← hC, hpush, layA0, layA1, hset1, l1, l2, l3, l4, l5, l6, f1, f2, f3, f4]
    exact f5
  · by_cases hlt : (c.length : Int) < 2 * L.length + 70
    · simp [F169_spindlelaw0_Lender_Lend, drA0, drA1, leA0, leA1, leA2, leA3, hrow, hbl, w1, w2, hlt, w3, w4, hroom, ← hC, hpush, layA0, layA1, hset1, l1, l2, l3, l4, l5, l6, f1, f2, f3, f4]
      exact f5
    · obtain ⟨f1, f2, f3, f4, f5⟩ := fin st r c hfl hrow hbuf hne (by omega) (hc r c hbuf rfl) (.inl rfl) (.refl _ _ _)
      obtain ⟨e1, l1, l2, l3⟩ := lend_loop1o (pr := pr) (nz := nz) hL hfl hrow hbuf hne (by omega)
      obtain ⟨e2, l4, l5, l6⟩ := lend_loop2o hd (nz := nz) hL hfl hrow hbuf hne (by omega)
      simp [F169_spindlelaw0_Lender_Lend, drA0, drA1, leA0, leA1, leA2, leA3, hrow, hbl, w1, w2, hlt, l1, l2, l3, l4, l5, l6, f1, f2, f3, f4, layA0, layA1]
      exact f5
theorem den_BackO {p r : Nat} {nz : Bool} {L : List UInt8} {c : List V} (h : LentO st p A E r L c) (hL : L.length ≤ 8589934592) :
    ∃ st', den pr 170 [.ptr p A.length, bsl nz L] st = some (.d (.b true), st') ∧ LnO st' p A E (.rsl 1 r 0 c.length c.length) L.length (some r) ∧ Kp st st' (fun i => i = r) (fun _ => False) := by
  have hbl : lenV (bsl nz L) = some L.length := rfl
  have hcl := h.len
  have w1 : IntKind.wrap .i64 (2 * (L.length : Int)) = 2 * L.length := wrap_i64 (by omega) (by omega)
  have w2 : IntKind.wrap .i64 (2 * (L.length : Int) + 70) = 2 * L.length + 70 := wrap_i64 (by omega) (by omega)
  have hmk := fun x i st => den_mark hd (st := st) x i
  have hrow := h.row
  obtain ⟨W, hW⟩ : ∃ W, W = wrow (lcell L) c (2 * L.length + 70) := ⟨_, rfl⟩
  have hbuf := h.buf
  rw [← hW] at hbuf
  have hWl : W.length = c.length := by rw [hW]; exact wrow_len hcl
  have hrl := row_lt hbuf
  have hpl := row_lt hrow
  have hbv := (h.bv c.length (by omega)).b2s
  have hslc : slcV 1 (.rsl 1 r 0 c.length c.length) none (some (.d (.i .i64 (L.length : Int)))) none = some (.rsl 1 r 0 L.length c.length) := by
    have b1 : (0 : Int) ≤ L.length ∧ (L.length : Int) ≤ c.length := by omega
    simp only [slcV, if_true, bnds, bnd, intV, b1, and_self, Int.toNat_natCast, Option.map_some, Nat.zero_mul, Nat.add_zero, Nat.sub_zero]
  suffices hh : ∃ y, den pr 170 [.ptr p A.length, bsl nz L] st = some y ∧ y = (.d (.b true), st.put r (wrow (fun _ => .d (.i .u8 120)) W L.length)) by
    obtain ⟨_, h1, rfl⟩ := hh
    refine ⟨_, h1, ⟨by simpa using h.fl, by rw [row_put_ne (Ne.symm h.ne)]; exact hrow, .inr ⟨r, _, rfl, ?_, row_put_eq hrl, h.ne⟩⟩, .put rfl⟩
    rw [wrow_len (by omega), hWl]
  rw [den_fn (hd.at 1 rfl) rfl rfl, start_raw _ rfl]
  simp [F170_spindlelaw0_Lender_Back, drA0, drA1, leA0, leA1, leA2, leA3, hrow, hbl, hslc, hbv]
  generalize hLo : cden pr (.loop [0, 5, 6] _ _) _ _ = o
  obtain ⟨r1, rfl, hR1⟩ : ∃ r1, o = some r1 ∧ ∃ e, r1 = (.exit 0, e, st) ∧ e.get 0 = some (.ptr p A.length) ∧ e.get 5 = some (.d (.b true)) := by
    rw [← hLo]
    refine loop_n (L.length + 70) (fun i => [(0, .ptr p A.length), (5, .d (.b true)), (6, .d (.i .i64 ((L.length : Int) + (i : Int))))]) (fun _ => st) ?_ (by simp) rfl
    intro i hi
    rcases Nat.lt_or_ge i (L.length + 70) with hlt | hge
    · have hia := iaddr_row (size := 1) (sz := 1) (id := r) (off := 0) (n := c.length) (cap := c.length) (k := .i64) (i := L.length + i) (by omega)
      simp at hia
      have hlt3 : (L.length : Int) + i < 2 * L.length + 70 := by omega
      have h1 : IntKind.wrap .i64 ((L.length : Int) + (i : Int) + 1) = (L.length : Int) + (i + 1) := by rw [wrap_i64 (by omega) (by omega)]; omega
      have hmk1 := fun st => hmk (.ptr p A.length) (L.length + i) st
      simp at hmk1
      have hget : W[L.length + i]? = some (.d (.i .u8 (lmk (L.length + i)))) := by
        rw [hW, wrow_get (by omega)]
        simp [lcell]
      have hld : loadV 1 false st (.ptr r (L.length + i)) = some (.d (.i .u8 (lmk (L.length + i)))) := by
        have hlt4 := (List.getElem?_eq_some_iff.1 hget).1
        simp only [loadV_ptr, hbuf]
        rw [if_pos (by omega), List.drop_eq_getElem_cons (by omega), List.take_succ_cons, List.take_zero, (List.getElem?_eq_some_iff.1 hget).2]
        rfl
      obtain ⟨P, hP⟩ : ∃ P, P = V.ptr r (L.length + i) := ⟨_, rfl⟩
      rw [← hP] at hld hia
      simp [F170_spindlelaw0_Lender_Back_b0, drA0, drA1, leA0, leA1, leA2, leA3, hrow, w1, w2, hlt3, hia, hld, hmk1, h1, hlt]
    · have : i = L.length + 70 := by omega
      subst this
      have hlt3 : ¬ ((L.length : Int) + (L.length + 70) < 2 * L.length + 70) := by omega
      simp [F170_spindlelaw0_Lender_Back_b0, drA0, drA1, leA0, leA1, leA2, leA3, hrow, w1, w2, hlt3]
  obtain ⟨e, rfl, e0, e5⟩ := hR1
  simp [e0, e5]
  generalize hLo2 : cden pr (.loop [0, 5, 7] _ _) _ _ = o
  obtain ⟨f, hf⟩ : ∃ f : Nat → V, f = fun _ => .d (.i .u8 120) := ⟨_, rfl⟩
  have hfi : ∀ i, f i = .d (.i .u8 120) := fun i => by rw [hf]
  obtain ⟨r2, rfl, hR2⟩ : ∃ r1, o = some r1 ∧ ∃ e, r1 = (.exit 2, e, st.put r (wrow f W L.length)) ∧ e.get 5 = some (.d (.b true)) := by
    rw [← hLo2]
    obtain ⟨S, hS⟩ : ∃ S : Nat → St, ∀ i, S i = st.put r (wrow f W i) := ⟨_, fun _ => rfl⟩
    suffices hx : ∃ r1, cden pr (.loop [0, 5, 7] false F170_spindlelaw0_Lender_Back_b1) [(0, .ptr p A.length), (5, .d (.b true)), (7, .d (.i .i64 0))] st = some r1 ∧ ∃ e, r1 = (.exit 2, e, S L.length) ∧ e.get 5 = some (.d (.b true)) by
      obtain ⟨r1, q1, e, q2, q3⟩ := hx
      exact ⟨r1, q1, e, by rw [q2, hS], q3⟩
    refine loop_n L.length (fun i => [(0, .ptr p A.length), (5, .d (.b true)), (7, .d (.i .i64 (i : Int)))]) S ?_ (by simp) (by rw [hS, wrow_zero, put_self hbuf])
    intro i hi
    have hst' : (S i).row p = some (A ++ .rsl 1 r 0 c.length c.length :: .d (.i .i64 L.length) :: E) := by rw [hS, row_put_ne (Ne.symm h.ne)]; exact hrow
    have hsr' : (S i).row r = some (wrow f W i) := by rw [hS]; exact row_put_eq hrl
    rcases Nat.lt_or_ge i L.length with hlt | hge
    · have hia := iaddr_row (size := 1) (sz := 1) (id := r) (off := 0) (n := c.length) (cap := c.length) (k := .i64) (i := i) (by omega)
      simp at hia
      have h1 : IntKind.wrap .i64 ((i : Int) + 1) = i + 1 := wrap_i64 (by omega) (by omega)
      have hw := wrow_step (f := f) (c := W) (i := i) (by omega)
      rw [hfi] at hw
      have hwl := wrow_len (f := f) (c := W) (i := i) (by omega)
      have hset' : (S i).setBlk r (.row (lay (wrow f W i) i [.d (.i .u8 120)])) = some (S (i + 1)) := by rw [hw, hS, setBlk_put (by simpa using h.fl), put_put, hS]
      have hlt2 : i + 1 ≤ c.length := by omega
      simp [F170_spindlelaw0_Lender_Back_b1, drA0, drA1, leA0, leA1, leA2, leA3, hst', hlt, hia, hsr', hset', hwl, hWl, h1, hlt2]
    · have : i = L.length := by omega
      subst this
      simp [F170_spindlelaw0_Lender_Back_b1, drA0, drA1, leA0, leA1, leA2, leA3, hst']
  obtain ⟨e', rfl, e5'⟩ := hR2
  simp [e5', hf]
end
end Go.Sh
