/- Instructions' bytes read back; bytes that are read are the bytes of what is read. -/
import Derived.Test.YtnemobbnlacmjaaDoorShLcodeC
set_option linter.unusedVariables false
set_option linter.unusedSimpArgs false
namespace Go.Sh
theorem Ins.ext' {x y : Ins} (h1 : x.op = y.op) (h2 : x.dst = y.dst) (h3 : x.src = y.src) (h4 : x.off = y.off) (h5 : x.imm = y.imm) : x = y := by
  cases x
  cases y
  simp only at h1 h2 h3 h4 h5
  rw [h1, h2, h3, h4, h5]
theorem i16_id {x : Int} (h : -32768 ≤ x) (h' : x ≤ 32767) (n : Int) (hn : n = x % 65536) : IntKind.wrap .i16 n = x := by
  simp only [IntKind.wrap, IntKind.signed, IntKind.bits, Bool.true_and, decide_eq_true_eq, show (2 : Int) ^ (16 - 1) = 32768 from rfl, show (2 : Int) ^ 16 = 65536 from rfl]
  split <;> omega
theorem i32_id {x : Int} (h : -2147483648 ≤ x) (h' : x ≤ 2147483647) (n : Int) (hn : n = x % 4294967296) : IntKind.wrap .i32 n = x := by
  simp only [IntKind.wrap, IntKind.signed, IntKind.bits, Bool.true_and, decide_eq_true_eq, show (2 : Int) ^ (32 - 1) = 2147483648 from rfl, show (2 : Int) ^ 32 = 4294967296 from rfl]
  split <;> omega
theorem i64_id {x : Int} (h : -9223372036854775808 ≤ x) (h' : x ≤ 9223372036854775807) (n : Int) (hn : n = x % 18446744073709551616) : IntKind.wrap .i64 n = x := by
  simp only [IntKind.wrap, IntKind.signed, IntKind.bits, Bool.true_and, decide_eq_true_eq, show (2 : Int) ^ (64 - 1) = 9223372036854775808 from rfl, show (2 : Int) ^ 64 = 18446744073709551616 from rfl]
  split <;> omega
theorem enc_bt (x : Ins) (tail : List UInt8) : bt (x.enc ++ tail) 0 = (byU x.op 0).toNat ∧ bt (x.enc ++ tail) 1 = (byU (x.dst + 16 * x.src) 0).toNat ∧ bt (x.enc ++ tail) 2 = (byU x.off 0).toNat ∧ bt (x.enc ++ tail) 3 = (byU x.off 1).toNat ∧
    bt (x.enc ++ tail) 4 = (byU x.imm 0).toNat ∧ bt (x.enc ++ tail) 5 = (byU x.imm 1).toNat ∧ bt (x.enc ++ tail) 6 = (byU x.imm 2).toNat ∧ bt (x.enc ++ tail) 7 = (byU x.imm 3).toNat := by
  simp [bt, Ins.enc]
theorem enc_btw {x : Ins} (h : x.op = 24) (tail : List UInt8) : bt (x.enc ++ tail) 8 = 0 ∧ bt (x.enc ++ tail) 9 = 0 ∧ bt (x.enc ++ tail) 10 = 0 ∧ bt (x.enc ++ tail) 11 = 0 ∧
    bt (x.enc ++ tail) 12 = (byU x.imm 4).toNat ∧ bt (x.enc ++ tail) 13 = (byU x.imm 5).toNat ∧ bt (x.enc ++ tail) 14 = (byU x.imm 6).toNat ∧ bt (x.enc ++ tail) 15 = (byU x.imm 7).toNat := by
  simp [bt, Ins.enc, h]
def Ins.w (x : Ins) : Nat := if x.op = 24 then 2 else 1
theorem enc_slotW {x : Ins} (h : mayV x = 0) (tail : List UInt8) : slotW (x.enc ++ tail) = x.w := by
  have hr := may_range h
  obtain ⟨b0, _⟩ := enc_bt x tail
  have u := byU_nat x.op 0
  unfold slotW Ins.w
  rw [b0]
  by_cases ho : x.op = 24
  · rw [if_pos ho, if_pos (by simp at u; omega)]
  · rw [if_neg ho, if_neg (by simp at u; omega)]
theorem Ins.enc_w (x : Ins) : x.enc.length = 8 * x.w := by
  rw [Ins.enc_len]
  unfold Ins.w
  split <;> rfl
theorem first_enc {x : Ins} (h : mayV x = 0) (hw : x.wf) (tail : List UInt8) : firstOf (x.enc ++ tail) = (x, (x.w : Int), 0) := by
  have hr := may_range h
  obtain ⟨b0, b1, b2, b3, b4, b5, b6, b7⟩ := enc_bt x tail
  have u0 := byU_nat x.op 0
  have u1 := byU_nat (x.dst + 16 * x.src) 0
  have u2 := byU_nat x.off 0
  have u3 := byU_nat x.off 1
  have u4 := byU_nat x.imm 0
  have u5 := byU_nat x.imm 1
  have u6 := byU_nat x.imm 2
  have u7 := byU_nat x.imm 3
  have hl := Ins.enc_len x
  simp only [Int.reducePow, Int.pow_zero, Int.ediv_one, Int.pow_succ, Int.one_mul, Int.reduceMul] at u0 u1 u2 u3 u4 u5 u6 u7
  have hi : mayV (if x.op = 24 then wideAt (x.enc ++ tail) else insAt (x.enc ++ tail)) = 0 ∧ (if x.op = 24 then wideAt (x.enc ++ tail) else insAt (x.enc ++ tail)) = x := by
    have : (if x.op = 24 then wideAt (x.enc ++ tail) else insAt (x.enc ++ tail)) = x := by
      by_cases ho : x.op = 24
      · rw [if_pos ho]
        obtain ⟨c0, c1, c2, c3, c4, c5, c6, c7⟩ := enc_btw ho tail
        have v4 := byU_nat x.imm 4
        have v5 := byU_nat x.imm 5
        have v6 := byU_nat x.imm 6
        have v7 := byU_nat x.imm 7
        simp only [Int.reducePow] at v4 v5 v6 v7
        refine Ins.ext' ?_ ?_ ?_ ?_ ?_
        · simp only [wideAt, insAt, b0]; omega
        · simp only [wideAt, insAt, b1]; omega
        · simp only [wideAt, insAt, b1]; omega
        · simp only [wideAt, insAt, b2, b3]
          exact i16_id hr.2.2.2.2.2.2.1 hr.2.2.2.2.2.2.2.1 _ (by omega)
        · simp only [wideAt, insAt, t4, b4, b5, b6, b7, c4, c5, c6, c7]
          exact i64_id hw.imm.1 hw.imm.2 _ (by omega)
      · rw [if_neg ho]
        refine Ins.ext' ?_ ?_ ?_ ?_ ?_
        · simp only [insAt, b0]; omega
        · simp only [insAt, b1]; omega
        · simp only [insAt, b1]; omega
        · simp only [insAt, b2, b3]
          exact i16_id hr.2.2.2.2.2.2.1 hr.2.2.2.2.2.2.2.1 _ (by omega)
        · simp only [insAt, t4, b4, b5, b6, b7]
          exact i32_id (by omega) (by omega) _ (by omega)
    exact ⟨by rw [this]; exact h, this⟩
  unfold firstOf
  by_cases ho : x.op = 24
  · rw [if_pos ho] at hi hl
    obtain ⟨c0, c1, c2, c3, _⟩ := enc_btw ho tail
    have ht : t4 (x.enc ++ tail) 8 = 0 := by simp only [t4, c0, c1, c2, c3]
    rw [if_neg (by rw [List.length_append]; omega), if_pos (by omega), if_neg (by rw [List.length_append]; omega), if_neg (by omega), if_neg (by rw [hi.1]; omega), hi.2]
    simp [Ins.w, ho]
  · rw [if_neg ho] at hi hl
    rw [if_neg (by rw [List.length_append]; omega), if_neg (by omega), if_neg (by rw [hi.1]; omega), hi.2]
    simp [Ins.w, ho]
theorem slotsOf_cons (x : Ins) (r : List Ins) : slotsOf (x :: r) = x.w + slotsOf r := rfl
theorem enc_ne (x : Ins) (tail : List UInt8) : x.enc ++ tail ≠ [] := by
  intro h
  have := congrArg List.length h
  simp [Ins.enc_len] at this
  split at this <;> omega
theorem dcA_encs : ∀ (is : List Ins) (acc : List Ins) (k : Nat) (tail : List UInt8), (∀ x ∈ is, mayV x = 0) → (∀ x ∈ is, x.wf) → dcA acc k (iencs is ++ tail) = dcA (acc ++ is) (k + slotsOf is) tail
  | [], acc, k, tail, _, _ => by simp [iencs, slotsOf]
  | x :: r, acc, k, tail, h, hw => by
    have hx := h x List.mem_cons_self
    have hf := first_enc hx (hw x List.mem_cons_self) (iencs r ++ tail)
    have hs := enc_slotW hx (iencs r ++ tail)
    simp only [iencs, List.append_assoc]
    rw [dcA, dif_neg (enc_ne x _), hf, if_neg (by simp), hs, List.drop_left' (Ins.enc_w x), dcA_encs r _ _ tail (fun y hy => h y (List.mem_cons_of_mem _ hy)) (fun y hy => hw y (List.mem_cons_of_mem _ hy)), slotsOf_cons, List.append_assoc, Nat.add_assoc]
    rfl
theorem dcCnt_encs : ∀ (is : List Ins) (tail : List UInt8), (∀ x ∈ is, mayV x = 0) → (∀ x ∈ is, x.wf) → dcCnt (iencs is ++ tail) = is.length + dcCnt tail
  | [], tail, _, _ => by simp [iencs]
  | x :: r, tail, h, hw => by
    have hx := h x List.mem_cons_self
    have hf := first_enc hx (hw x List.mem_cons_self) (iencs r ++ tail)
    have hs := enc_slotW hx (iencs r ++ tail)
    simp only [iencs, List.append_assoc]
    rw [dcCnt, dif_neg (enc_ne x _), hf, if_neg (by simp), hs, List.drop_left' (Ins.enc_w x), dcCnt_encs r tail (fun y hy => h y (List.mem_cons_of_mem _ hy)) (fun y hy => hw y (List.mem_cons_of_mem _ hy)), List.length_cons]
    omega
theorem dcA_nil (acc : List Ins) (k : Nat) : dcA acc k [] = (acc, 0, 0) := by rw [dcA, dif_pos rfl]
theorem dcCnt_nil : dcCnt [] = 0 := by rw [dcCnt, dif_pos rfl]
theorem dc_back {is : List Ins} (h : ∀ x ∈ is, mayV x = 0) (hw : ∀ x ∈ is, x.wf) : dcA [] 0 (iencs is) = (is, 0, 0) ∧ dcCnt (iencs is) = is.length := by
  have h1 := dcA_encs is [] 0 [] h hw
  have h2 := dcCnt_encs is [] h hw
  rw [List.append_nil] at h1 h2
  rw [h1, h2, dcA_nil, dcCnt_nil]
  exact ⟨by simp, rfl⟩
/-- Bytes of which an instruction is read begin with its bytes. -/
theorem enc_first {l : List UInt8} (h : (firstOf l).2.2 = 0) : (firstOf l).1.enc = l.take (8 * slotW l) ∧ (firstOf l).1.wf ∧ (firstOf l).1.w = slotW l := by
  obtain ⟨h1, h2, h3, h4, h5⟩ := firstOf_w h
  have hbt : ∀ i, i < l.length → l[i]? = some (UInt8.ofNat (bt l i)) := fun i hi => by rw [List.getElem?_eq_getElem hi]; simp [bt, hi]
  have hby : ∀ (x : Int) (i n : Nat), (n : Int) = x / 256 ^ i % 256 → byU x i = UInt8.ofNat n := fun x i n h => by unfold byU; rw [← h]; rfl
  have z := bt_lt l
  have z0 := z 0
  have z1 := z 1
  have z2 := z 2
  have z3 := z 3
  have z4 := z 4
  have z5 := z 5
  have z6 := z 6
  have z7 := z 7
  rw [h3] at h4 ⊢
  have w16 : ∀ n : Nat, n < 65536 → IntKind.wrap .i16 (n : Int) % 65536 = n := fun n hn => by
    simp only [IntKind.wrap, IntKind.signed, IntKind.bits, Bool.true_and, decide_eq_true_eq, show (2 : Int) ^ (16 - 1) = 32768 from rfl, show (2 : Int) ^ 16 = 65536 from rfl]
    split <;> omega
  have w32 : ∀ n : Nat, n < 4294967296 → IntKind.wrap .i32 (n : Int) % 4294967296 = n := fun n hn => by
    simp only [IntKind.wrap, IntKind.signed, IntKind.bits, Bool.true_and, decide_eq_true_eq, show (2 : Int) ^ (32 - 1) = 2147483648 from rfl, show (2 : Int) ^ 32 = 4294967296 from rfl]
    split <;> omega
  have w64 : ∀ n : Nat, n < 18446744073709551616 → IntKind.wrap .i64 (n : Int) % 18446744073709551616 = n := fun n hn => by
    simp only [IntKind.wrap, IntKind.signed, IntKind.bits, Bool.true_and, decide_eq_true_eq, show (2 : Int) ^ (64 - 1) = 9223372036854775808 from rfl, show (2 : Int) ^ 64 = 18446744073709551616 from rfl]
    split <;> omega
  have i64 : ∀ n : Int, okI (IntKind.wrap .i64 n) := fun n => by
    unfold okI
    simp only [IntKind.wrap, IntKind.signed, IntKind.bits, Bool.true_and, decide_eq_true_eq, show (2 : Int) ^ (64 - 1) = 9223372036854775808 from rfl, show (2 : Int) ^ 64 = 18446744073709551616 from rfl]
    split <;> omega
  have hr := may_range h4
  by_cases hb : bt l 0 = 24
  · have hsw : slotW l = 2 := by rw [slotW, if_pos hb]
    rw [if_pos hb] at h4 hr ⊢
    rw [hsw] at h2 ⊢
    have z8 := z 8
    have z9 := z 9
    have z10 := z 10
    have z11 := z 11
    have z12 := z 12
    have z13 := z 13
    have z14 := z 14
    have z15 := z 15
    have h5 : bt l 8 + 256 * bt l 9 + 65536 * bt l 10 + 16777216 * bt l 11 = 0 := h5 hb
    have hop : (wideAt l).op = 24 := by simp [wideAt, insAt, hb]
    have e0 : (wideAt l).op = bt l 0 := rfl
    have e1 : (wideAt l).dst = (bt l 1 % 16 : Nat) := rfl
    have e2 : (wideAt l).src = (bt l 1 / 16 : Nat) := rfl
    have e3 : (wideAt l).off = IntKind.wrap .i16 (bt l 2 + 256 * bt l 3 : Nat) := rfl
    have e4 : (wideAt l).imm = IntKind.wrap .i64 ((t4 l 4 + 4294967296 * t4 l 12 : Nat) : Int) := rfl
    have m16 := w16 (bt l 2 + 256 * bt l 3) (by omega)
    have t44 : t4 l 4 = bt l 4 + 256 * bt l 5 + 65536 * bt l 6 + 16777216 * bt l 7 := rfl
    have t12 : t4 l 12 = bt l 12 + 256 * bt l 13 + 65536 * bt l 14 + 16777216 * bt l 15 := rfl
    have m64 := w64 (t4 l 4 + 4294967296 * t4 l 12) (by omega)
    have okimm := i64 ((t4 l 4 + 4294967296 * t4 l 12 : Nat) : Int)
    rw [← e3] at m16
    rw [← e4] at m64 okimm
    refine ⟨?_, ⟨?_, ?_, ?_, ?_, okimm⟩, by simp [Ins.w, hop]⟩
    · rw [Ins.enc, if_pos hop]
      refine List.ext_getElem? fun i => ?_
      rw [List.getElem?_take]
      by_cases hi : i < 16
      · rw [if_pos hi, hbt i (by omega)]
        rcases (by omega : i = 0 ∨ i = 1 ∨ i = 2 ∨ i = 3 ∨ i = 4 ∨ i = 5 ∨ i = 6 ∨ i = 7 ∨ i = 8 ∨ i = 9 ∨ i = 10 ∨ i = 11 ∨ i = 12 ∨ i = 13 ∨ i = 14 ∨ i = 15) with rfl | rfl | rfl | rfl | rfl | rfl | rfl | rfl | rfl | rfl | rfl | rfl | rfl | rfl | rfl | rfl
        · exact congrArg some (hby _ _ _ (by simp only [Int.pow_zero, Int.ediv_one]; omega))
        · exact congrArg some (hby _ _ _ (by simp only [Int.pow_zero, Int.ediv_one]; omega))
        · exact congrArg some (hby _ _ _ (by simp only [Int.pow_zero, Int.ediv_one]; omega))
        · exact congrArg some (hby _ _ _ (by simp only [Int.reducePow]; omega))
        · exact congrArg some (hby _ _ _ (by simp only [Int.pow_zero, Int.ediv_one]; omega))
        · exact congrArg some (hby _ _ _ (by simp only [Int.reducePow]; omega))
        · exact congrArg some (hby _ _ _ (by simp only [Int.reducePow]; omega))
        · exact congrArg some (hby _ _ _ (by simp only [Int.reducePow]; omega))
        · rw [show bt l 8 = 0 by omega]; rfl
        · rw [show bt l 9 = 0 by omega]; rfl
        · rw [show bt l 10 = 0 by omega]; rfl
        · rw [show bt l 11 = 0 by omega]; rfl
        · exact congrArg some (hby _ _ _ (by simp only [Int.reducePow]; omega))
        · exact congrArg some (hby _ _ _ (by simp only [Int.reducePow]; omega))
        · exact congrArg some (hby _ _ _ (by simp only [Int.reducePow]; omega))
        · exact congrArg some (hby _ _ _ (by simp only [Int.reducePow]; omega))
      · rw [if_neg (by omega), List.getElem?_eq_none (by simp; omega)]
    all_goals unfold okI
    all_goals omega
  · have hsw : slotW l = 1 := by rw [slotW, if_neg hb]
    rw [if_neg hb] at h4 hr ⊢
    rw [hsw] at h2 ⊢
    have e0 : (insAt l).op = bt l 0 := rfl
    have e1 : (insAt l).dst = (bt l 1 % 16 : Nat) := rfl
    have e2 : (insAt l).src = (bt l 1 / 16 : Nat) := rfl
    have e3 : (insAt l).off = IntKind.wrap .i16 (bt l 2 + 256 * bt l 3 : Nat) := rfl
    have e4 : (insAt l).imm = IntKind.wrap .i32 ((t4 l 4 : Nat) : Int) := rfl
    have hop : ¬ (insAt l).op = 24 := by omega
    have m16 := w16 (bt l 2 + 256 * bt l 3) (by omega)
    have t44 : t4 l 4 = bt l 4 + 256 * bt l 5 + 65536 * bt l 6 + 16777216 * bt l 7 := rfl
    have m32 := w32 (t4 l 4) (by omega)
    rw [← e3] at m16
    rw [← e4] at m32
    refine ⟨?_, ⟨?_, ?_, ?_, ?_, ?_⟩, by simp [Ins.w, hop]⟩
    · rw [Ins.enc, if_neg hop]
      refine List.ext_getElem? fun i => ?_
      rw [List.getElem?_take]
      by_cases hi : i < 8
      · rw [if_pos hi, hbt i (by omega)]
        rcases (by omega : i = 0 ∨ i = 1 ∨ i = 2 ∨ i = 3 ∨ i = 4 ∨ i = 5 ∨ i = 6 ∨ i = 7) with rfl | rfl | rfl | rfl | rfl | rfl | rfl | rfl
        · exact congrArg some (hby _ _ _ (by simp only [Int.pow_zero, Int.ediv_one]; omega))
        · exact congrArg some (hby _ _ _ (by simp only [Int.pow_zero, Int.ediv_one]; omega))
        · exact congrArg some (hby _ _ _ (by simp only [Int.pow_zero, Int.ediv_one]; omega))
        · exact congrArg some (hby _ _ _ (by simp only [Int.reducePow]; omega))
        · exact congrArg some (hby _ _ _ (by simp only [Int.pow_zero, Int.ediv_one]; omega))
        · exact congrArg some (hby _ _ _ (by simp only [Int.reducePow]; omega))
        · exact congrArg some (hby _ _ _ (by simp only [Int.reducePow]; omega))
        · exact congrArg some (hby _ _ _ (by simp only [Int.reducePow]; omega))
      · rw [if_neg (by omega), List.getElem?_eq_none (by simp; omega)]
    all_goals unfold okI
    all_goals omega
theorem firstOf_err (l : List UInt8) (h : (firstOf l).2.2 ≠ 0) : 30 ≤ (firstOf l).2.2 ∧ (firstOf l).2.2 ≤ 32 := by
  unfold firstOf at *
  repeat' split
  all_goals simp_all
theorem firstOf_cut {l : List UInt8} (h : (firstOf l).2.2 ≠ 0) (n : Nat) : (firstOf (l.take n)).2.2 ≠ 0 := by
  intro hc
  obtain ⟨h1, h2, h3, h4, h5⟩ := firstOf_w hc
  apply h
  have hb : ∀ i, i < 8 * slotW (l.take n) → bt (l.take n) i = bt l i := fun i hi => bt_take (by rw [List.length_take] at h2; omega)
  have hp := slotW_pos (l.take n)
  have hlen : 8 * slotW (l.take n) ≤ l.length := by rw [List.length_take] at h2; omega
  have b0 := hb 0 (by omega)
  have hi : insAt (l.take n) = insAt l := by
    simp only [insAt, t4, b0, hb 1 (by omega), hb 2 (by omega), hb 3 (by omega), hb 4 (by omega), hb (4 + 1) (by omega), hb (4 + 2) (by omega), hb (4 + 3) (by omega)]
  unfold firstOf
  by_cases h0 : bt l 0 = 24
  · have hs : slotW (l.take n) = 2 := by rw [slotW, b0, if_pos h0]
    rw [hs] at hlen hb
    have hw : wideAt (l.take n) = wideAt l := by
      simp only [wideAt, hi, t4, hb 4 (by omega), hb (4 + 1) (by omega), hb (4 + 2) (by omega), hb (4 + 3) (by omega), hb 12 (by omega), hb (12 + 1) (by omega), hb (12 + 2) (by omega), hb (12 + 3) (by omega)]
    rw [h3, if_pos (by rw [b0]; exact h0), hw] at h4
    have h5 := h5 (by rw [b0]; exact h0)
    simp only [t4, hb 8 (by omega), hb (8 + 1) (by omega), hb (8 + 2) (by omega), hb (8 + 3) (by omega)] at h5
    have h5 : t4 l 8 = 0 := h5
    rw [if_neg (by omega), if_pos h0, if_neg (by omega), if_neg (by omega), if_neg (by omega)]
  · rw [h3, if_neg (by rw [b0]; exact h0), hi] at h4
    rw [if_neg (by omega), if_neg h0, if_neg (by omega)]
/-- Bytes that are taken are the bytes of what is read. -/
theorem dc_forth : ∀ (n : Nat) (acc : List Ins) (k : Nat) (l : List UInt8), l.length ≤ n → (∃ js, dcA acc k l = (acc ++ js, 0, 0) ∧ iencs js = l ∧ (∀ x ∈ js, mayV x = 0) ∧ (∀ x ∈ js, x.wf)) ∨
    ∃ js m, l = iencs js ++ m ∧ m ≠ [] ∧ (∀ x ∈ js, mayV x = 0) ∧ (∀ x ∈ js, x.wf) ∧ (firstOf m).2.2 ≠ 0 ∧ dcA acc k l = ([], ((k + slotsOf js : Nat) : Int), (firstOf m).2.2) := by
  intro n
  induction n with
  | zero =>
    intro acc k l hl
    obtain rfl : l = [] := List.length_eq_zero_iff.1 (by omega)
    exact .inl ⟨[], by rw [dcA_nil, List.append_nil], rfl, by simp, by simp⟩
  | succ n ih =>
    intro acc k l hl
    by_cases hnil : l = []
    · subst hnil
      exact .inl ⟨[], by rw [dcA_nil, List.append_nil], rfl, by simp, by simp⟩
    rw [dcA, dif_neg hnil]
    by_cases he : (firstOf l).2.2 = 0
    · rw [if_neg (by omega)]
      obtain ⟨g1, g2, g3⟩ := enc_first he
      have hw := firstOf_w he
      have hp := slotW_pos l
      have hsplit : (firstOf l).1.enc ++ l.drop (8 * slotW l) = l := by rw [g1, List.take_append_drop]
      rcases ih (acc ++ [(firstOf l).1]) (k + slotW l) (l.drop (8 * slotW l)) (by simp; omega) with ⟨js, h1, h2, h3, h4⟩ | ⟨js, m, h1, h2, h3, h4, h5, h6⟩
      · refine .inl ⟨(firstOf l).1 :: js, ?_, ?_, ?_, ?_⟩
        · rw [h1, List.append_assoc]
          rfl
        · rw [iencs, h2, hsplit]
        · intro y hy
          cases hy with
          | head => exact hw.2.2.2.1
          | tail _ hy => exact h3 y hy
        · intro y hy
          cases hy with
          | head => exact g2
          | tail _ hy => exact h4 y hy
      · refine .inr ⟨(firstOf l).1 :: js, m, ?_, h2, ?_, ?_, h5, ?_⟩
        · rw [iencs, List.append_assoc, ← h1, hsplit]
        · intro y hy
          cases hy with
          | head => exact hw.2.2.2.1
          | tail _ hy => exact h3 y hy
        · intro y hy
          cases hy with
          | head => exact g2
          | tail _ hy => exact h4 y hy
        · rw [h6, slotsOf_cons, g3, Nat.add_assoc]
    · rw [if_pos he]
      exact .inr ⟨[], l, rfl, hnil, by simp, by simp, he, rfl⟩
/-- Decode refuses where no instruction is read behind what may be. -/
theorem dc_stop {js : List Ins} {m : List UInt8} (h1 : ∀ x ∈ js, mayV x = 0) (h2 : ∀ x ∈ js, x.wf) (hm : m ≠ []) (h3 : (firstOf m).2.2 ≠ 0) : dcA [] 0 (iencs js ++ m) = ([], ((slotsOf js : Nat) : Int), (firstOf m).2.2) := by
  rw [dcA_encs js [] 0 m h1 h2, dcA, dif_neg hm, if_pos h3, Nat.zero_add]
end Go.Sh
