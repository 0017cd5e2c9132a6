/- Lists of at most three numbers in a row of any state: sorted, made of different ones. -/
import Derived.Test.YtnemobbnlacmjaaDoorShLnuM
import Derived.Test.YtnemobbnlacmjaaDoorShLisaRegsW
set_option linter.unusedVariables false
set_option linter.unusedSimpArgs false
namespace Go.Sh
section
variable {pr : Prog} (hp : Sub regFns pr) {st : St}
include hp
theorem den_ins1R {k cap : Nat} {tail : List V} {a : Int} : den pr 99 [.rsl 1 k 0 1 cap, .d (.i .i64 0), .d (.i .i64 1)] st = some (.tup [], st) := by
  rw [den_fn (hp.at 8 rfl) rfl rfl, start_raw _ rfl]
  simp [F99_slices_insertionSortOrdered_int, wrap_i64]
  rw [cden_loopK]
  simp [F99_slices_insertionSortOrdered_int_b0]
theorem den_ins2R {k cap : Nat} {tail : List V} {a b : Int} (hk : st.row k = some (ofI [a, b] ++ tail)) (hf : st.floor = 0) :
    den pr 99 [.rsl 1 k 0 2 cap, .d (.i .i64 0), .d (.i .i64 2)] st = some (.tup [], st.put k (ofI (srt [a, b]) ++ tail)) := by
  have hlt := row_lt hk
  rw [den_fn (hp.at 8 rfl) rfl rfl, start_raw _ rfl]
  have hl := fun a b st => den_lessI (pr := pr) hp (st := st) a b
  have hset : ∀ cs, st.setBlk k (.row cs) = some (st.put k cs) := fun cs => setBlk_put hf
  have hset2 : ∀ cs ds, (st.put k cs).setBlk k (.row ds) = some (st.put k ds) := fun cs ds => by rw [setBlk_put (by rw [put_floor]; exact hf), put_put]
  have hrow2 : ∀ cs, (st.put k cs).row k = some cs := fun cs => row_put_eq hlt
  have hkk : st.row k = some (.d (.i .i64 a) :: .d (.i .i64 b) :: tail) := hk
  simp [F99_slices_insertionSortOrdered_int, wrap_i64]
  rw [cden_loopK]
  simp [F99_slices_insertionSortOrdered_int_b0]
  rw [cden_loopK]
  by_cases h : b < a
  · simp [F99_slices_insertionSortOrdered_int_b1, iaddrV, hkk, hset, hset2, hrow2, hl, h, wrap_i64, lay, ofI]
    rw [cden_loopK]
    simp [F99_slices_insertionSortOrdered_int_b1, wrap_i64]
    rw [cden_loopK]
    simp [F99_slices_insertionSortOrdered_int_b0, srt, h]
  · simp [F99_slices_insertionSortOrdered_int_b1, iaddrV, hkk, hset, hset2, hrow2, hl, h, wrap_i64, lay, ofI]
    rw [cden_loopK]
    simp [F99_slices_insertionSortOrdered_int_b0, srt, h]
    rw [put_self hkk]
/-- Three of which the first is none greater than the others. -/
theorem den_ins3R {k cap : Nat} {tail : List V} {z a b : Int} (hk : st.row k = some (ofI [z, a, b] ++ tail)) (hf : st.floor = 0) (hza : z ≤ a) (hzb : z ≤ b) :
    den pr 99 [.rsl 1 k 0 3 cap, .d (.i .i64 0), .d (.i .i64 3)] st = some (.tup [], st.put k (ofI (srt [z, a, b]) ++ tail)) := by
  have hlt := row_lt hk
  rw [den_fn (hp.at 8 rfl) rfl rfl, start_raw _ rfl]
  have hl := fun a b st => den_lessI (pr := pr) hp (st := st) a b
  have hset : ∀ cs, st.setBlk k (.row cs) = some (st.put k cs) := fun cs => setBlk_put hf
  have hset2 : ∀ cs ds, (st.put k cs).setBlk k (.row ds) = some (st.put k ds) := fun cs ds => by rw [setBlk_put (by rw [put_floor]; exact hf), put_put]
  have hrow2 : ∀ cs, (st.put k cs).row k = some cs := fun cs => row_put_eq hlt
  have hkk : st.row k = some (.d (.i .i64 z) :: .d (.i .i64 a) :: .d (.i .i64 b) :: tail) := hk
  have n1 : ¬ a < z := by omega
  have n2 : ¬ b < z := by omega
  simp [F99_slices_insertionSortOrdered_int, wrap_i64]
  rw [cden_loopK]
  simp [F99_slices_insertionSortOrdered_int_b0]
  rw [cden_loopK]
  simp [F99_slices_insertionSortOrdered_int_b1, iaddrV, hkk, hset, hset2, hrow2, hl, n1, wrap_i64, lay]
  rw [cden_loopK]
  simp [F99_slices_insertionSortOrdered_int_b0]
  rw [cden_loopK]
  by_cases h : b < a
  · simp [F99_slices_insertionSortOrdered_int_b1, iaddrV, hkk, hset, hset2, hrow2, hl, h, wrap_i64, lay, ofI]
    rw [cden_loopK]
    simp [F99_slices_insertionSortOrdered_int_b1, iaddrV, hset2, hrow2, hl, n2, wrap_i64, lay]
    rw [cden_loopK]
    simp [F99_slices_insertionSortOrdered_int_b0, srt, h]
  · simp [F99_slices_insertionSortOrdered_int_b1, iaddrV, hkk, hset, hset2, hrow2, hl, h, wrap_i64, lay, ofI]
    rw [cden_loopK]
    simp [F99_slices_insertionSortOrdered_int_b0, srt, h]
    rw [put_self hkk]
theorem den_cmp2R {k cap : Nat} {tail : List V} {a b : Int} (hk : st.row k = some (ofI [a, b] ++ tail)) (hf : st.floor = 0) (hc : 2 ≤ cap) :
    ∃ tail', tail'.length + (ddp [a, b]).length = tail.length + 2 ∧ den pr 93 [.rsl 1 k 0 2 cap] st = some (.rsl 1 k 0 (ddp [a, b]).length cap, st.put k (ofI (ddp [a, b]) ++ tail')) := by
  have hlt := row_lt hk
  have hset : ∀ cs, st.setBlk k (.row cs) = some (st.put k cs) := fun cs => setBlk_put hf
  have hset2 : ∀ cs ds, (st.put k cs).setBlk k (.row ds) = some (st.put k ds) := fun cs ds => by rw [setBlk_put (by rw [put_floor]; exact hf), put_put]
  have hrow2 : ∀ cs, (st.put k cs).row k = some cs := fun cs => row_put_eq hlt
  have hkk : st.row k = some (.d (.i .i64 a) :: .d (.i .i64 b) :: tail) := hk
  rw [den_fn (hp.at 4 rfl) rfl rfl, start_raw _ rfl]
  have hc1 : 1 ≤ cap := by omega
  have hc1' : (1 : Int) ≤ cap := by omega
  simp [F93_slices_Compact_int_int]
  rw [cden_loopK]
  by_cases h : a = b
  · have h' : (b = a) = True := eq_true h.symm
    refine ⟨.d (.i .i64 0) :: tail, by simp [ddp, h], ?_⟩
    simp [F93_slices_Compact_int_int_b0, iaddrV, hkk, hset, hset2, hrow2, h', wrap_i64, slcV, bnds, bnd, hc]
    rw [cden_loopK]
    simp [F93_slices_Compact_int_int_b1, clrV, hkk, hset, hset2, hrow2, reps, ofDs, lay, hc1, hc1', hc, slcV, bnds, bnd, h, ddp, ofI]
  · refine ⟨tail, by simp [ddp, h], ?_⟩
    have h' : ¬ b = a := fun e => h e.symm
    simp [F93_slices_Compact_int_int_b0, iaddrV, hkk, hset, hset2, hrow2, h, h', wrap_i64]
    rw [cden_loopK]
    simp [F93_slices_Compact_int_int_b0, ddp, h, ofI]
    rw [put_self hkk]
theorem den_cmp3R {k cap : Nat} {tail : List V} {z a b : Int} (hk : st.row k = some (ofI [z, a, b] ++ tail)) (hf : st.floor = 0) (hc : 3 ≤ cap) :
    ∃ tail', tail'.length + (ddp [z, a, b]).length = tail.length + 3 ∧ den pr 93 [.rsl 1 k 0 3 cap] st = some (.rsl 1 k 0 (ddp [z, a, b]).length cap, st.put k (ofI (ddp [z, a, b]) ++ tail')) := by
  have hlt := row_lt hk
  have hset : ∀ cs, st.setBlk k (.row cs) = some (st.put k cs) := fun cs => setBlk_put hf
  have hset2 : ∀ cs ds, (st.put k cs).setBlk k (.row ds) = some (st.put k ds) := fun cs ds => by rw [setBlk_put (by rw [put_floor]; exact hf), put_put]
  have hrow2 : ∀ cs, (st.put k cs).row k = some cs := fun cs => row_put_eq hlt
  have hkk : st.row k = some (.d (.i .i64 z) :: .d (.i .i64 a) :: .d (.i .i64 b) :: tail) := hk
  rw [den_fn (hp.at 4 rfl) rfl rfl, start_raw _ rfl]
  have hc1 : 1 ≤ cap := by omega
  have hc1' : (1 : Int) ≤ cap := by omega
  have hc2 : 2 ≤ cap := by omega
  have hc2' : (2 : Int) ≤ cap := by omega
  simp [F93_slices_Compact_int_int]
  rw [cden_loopK]
  by_cases h : z = a
  · have h' : (a = z) = True := eq_true h.symm
    by_cases hab : a = b
    · have hab' : (b = a) = True := eq_true hab.symm
      refine ⟨.d (.i .i64 0) :: .d (.i .i64 0) :: tail, by simp [ddp, h, hab], ?_⟩
      simp [F93_slices_Compact_int_int_b0, iaddrV, hkk, hset, hset2, hrow2, h', wrap_i64, slcV, bnds, bnd, hc]
      rw [cden_loopK]
      simp [F93_slices_Compact_int_int_b1, iaddrV, hkk, hset, hset2, hrow2, hab', wrap_i64]
      rw [cden_loopK]
      simp [F93_slices_Compact_int_int_b1, clrV, hkk, hset, hset2, hrow2, reps, ofDs, lay, hc1, hc1', hc, slcV, bnds, bnd, h, hab, ddp, ofI]
    · have hab' : ¬ b = a := fun e => hab e.symm
      refine ⟨.d (.i .i64 0) :: tail, by simp [ddp, h, hab], ?_⟩
      simp [F93_slices_Compact_int_int_b0, iaddrV, hkk, hset, hset2, hrow2, h', wrap_i64, slcV, bnds, bnd, hc]
      rw [cden_loopK]
      simp [F93_slices_Compact_int_int_b1, iaddrV, hkk, hset, hset2, hrow2, hab', wrap_i64, lay]
      rw [cden_loopK]
      simp [F93_slices_Compact_int_int_b1, clrV, hkk, hset, hset2, hrow2, reps, ofDs, lay, hc2, hc2', hc, slcV, bnds, bnd, h, hab, ddp, ofI]
  · have h' : ¬ a = z := fun e => h e.symm
    simp [F93_slices_Compact_int_int_b0, iaddrV, hkk, hset, hset2, hrow2, h', wrap_i64]
    rw [cden_loopK]
    by_cases hab : a = b
    · have hab' : (b = a) = True := eq_true hab.symm
      have hzb : ¬ z = b := fun e => h (e.trans hab.symm)
      refine ⟨.d (.i .i64 0) :: tail, by simp [ddp, h, hzb, hab], ?_⟩
      simp [F93_slices_Compact_int_int_b0, iaddrV, hkk, hset, hset2, hrow2, hab', wrap_i64, slcV, bnds, bnd, hc]
      rw [cden_loopK]
      simp [F93_slices_Compact_int_int_b1, clrV, hkk, hset, hset2, hrow2, reps, ofDs, lay, hc2, hc2', hc, slcV, bnds, bnd, h, hzb, hab, ddp, ofI]
    · have hab' : ¬ b = a := fun e => hab e.symm
      refine ⟨tail, by simp [ddp, h, hab], ?_⟩
      simp [F93_slices_Compact_int_int_b0, iaddrV, hkk, hset, hset2, hrow2, hab', wrap_i64]
      rw [cden_loopK]
      simp [F93_slices_Compact_int_int_b0, ddp, h, hab, ofI]
      rw [put_self hkk]
omit hp in
/-- The row of such a list written over, its room kept. -/
theorem NewL.put {s : St} {k cap : Nat} {tail tail' : List V} {L L' : List Int} (g : Gr st s (fun _ => False) (fun _ => True)) (hk : s.row k = some (ofI L ++ tail)) (hn : st.heap.length ≤ k) (hc : tail.length + L.length = cap) (hl : tail'.length + L'.length = tail.length + L.length) :
    NewL st (s.put k (ofI L' ++ tail')) (.rsl 1 k 0 L'.length cap) L' := by
  refine ⟨some k, ⟨by rw [← ofI_icl, ofI_len, Nat.mul_one], .inr ⟨k, cap, tail', rfl, rfl, by omega, by rw [row_put_eq (row_lt hk), ofI_icl], by omega⟩⟩, ?_, fun r hr => by obtain rfl := Option.some.inj hr; exact hn⟩
  have g2 : Gr s (s.put k (ofI L' ++ tail')) (fun r => st.heap.length ≤ r) (fun _ => True) := Gr.put hk (by simp [ofI_len]; omega) hn fun _ _ _ => .inr trivial
  exact ((g.mono (A' := fun r => st.heap.length ≤ r) (fun _ _ e => e.elim) fun _ h => h).trans g2).mono (fun r hr e => by omega) fun _ h => h
theorem out_finR {s : St} {v : V} {L : List Int} (h : NewL st s v L) (hf : st.floor = 0) (h3 : (∃ a, L = [a]) ∨ (∃ a b, L = [a, b]) ∨ (∃ z a b, L = [z, a, b] ∧ z ≤ a ∧ z ≤ b) ∨ (L = [] ∧ v = .d (.sl 0 false []))) :
    ∃ s1 s2 w, den pr 92 [v] s = some (.tup [], s1) ∧ den pr 93 [v] s1 = some (w, s2) ∧ NewL st s2 w (ddp (srt L)) := by
  have h' := h
  obtain ⟨j, ⟨hl, hj⟩, g, hn⟩ := h
  have hfs : s.floor = 0 := g.floor.trans hf
  rcases hj with ⟨rfl, rfl, hL⟩ | ⟨k, cap, tail, rfl, rfl, hcap, hrow, ht⟩
  · have : L = [] := List.eq_nil_of_length_eq_zero hL
    subst this
    exact ⟨_, _, _, den_Sort hp (n := 0) (k := 0) rfl (by simp) (den_ins0 hp), den_cmp0 hp, h'⟩
  rw [← ofI_icl] at hrow
  have hk := hn k rfl
  rw [Nat.mul_one, Nat.mul_one] at ht
  rcases h3 with ⟨a, rfl⟩ | ⟨a, b, rfl⟩ | ⟨z, a, b, rfl, hza, hzb⟩ | ⟨_, hv⟩
  · exact ⟨_, _, _, den_Sort hp (n := 1) (k := 1) rfl (by simp) (den_ins1R hp (a := a) (tail := tail)), den_cmp1 hp, h'⟩
  · have h1 := den_ins2R hp (cap := cap) hrow hfs
    obtain ⟨c, d, hcd⟩ : ∃ c d, srt [a, b] = [c, d] := by
      rw [show srt [a, b] = if b < a then [b, a] else [a, b] from rfl]
      split <;> exact ⟨_, _, rfl⟩
    rw [hcd] at h1 ⊢
    obtain ⟨tail', e1, h2⟩ := den_cmp2R hp (st := s.put k (ofI [c, d] ++ tail)) (k := k) (cap := cap) (tail := tail) (a := c) (b := d) (row_put_eq (row_lt hrow)) hfs (by simpa using hcap)
    refine ⟨_, _, _, den_Sort hp (n := 2) (k := 2) rfl (by simp) h1, h2, ?_⟩
    rw [put_put]
    exact NewL.put g hrow hk ht e1
  · have h1 := den_ins3R hp (cap := cap) hrow hfs hza hzb
    obtain ⟨c, d, hcd⟩ : ∃ c d, srt [z, a, b] = [z, c, d] := by
      rw [show srt [z, a, b] = if b < a then [z, b, a] else [z, a, b] from rfl]
      split <;> exact ⟨_, _, rfl⟩
    rw [hcd] at h1 ⊢
    obtain ⟨tail', e1, h2⟩ := den_cmp3R hp (st := s.put k (ofI [z, c, d] ++ tail)) (k := k) (cap := cap) (tail := tail) (z := z) (a := c) (b := d) (row_put_eq (row_lt hrow)) hfs (by simpa using hcap)
    refine ⟨_, _, _, den_Sort hp (n := 3) (k := 2) rfl (by simp) h1, h2, ?_⟩
    rw [put_put]
    exact NewL.put g hrow hk ht e1
  · cases hv
end
end Go.Sh
