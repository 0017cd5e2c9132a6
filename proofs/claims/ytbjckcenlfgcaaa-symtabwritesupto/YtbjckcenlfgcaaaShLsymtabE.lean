/- Symbols and their bytes, in plain terms: what is read of what was written. -/
import Derived.Test.YtbjckcenlfgcaaaShLsymtabD
set_option linter.unusedVariables false
set_option linter.unusedSimpArgs false
namespace Go.Sh
def i64ok (x : Int) : Prop := -9223372036854775808 ≤ x ∧ x ≤ 9223372036854775807
structure Sym.wf (x : Sym) : Prop where
  name : i64ok x.name
  binding : i64ok x.binding
  kind : i64ok x.kind
  sec : i64ok x.sec
  value : i64ok x.value
  size : i64ok x.size
def byteU (x : Int) (i : Nat) : UInt8 := UInt8.ofNat ((x / 2 ^ (8 * i)) % 256).toNat
def leB (w : Nat) (x : Int) : List UInt8 := (List.range w).map (byteU x)
theorem leB_len (w : Nat) (x : Int) : (leB w x).length = w := by simp [leB]
theorem byteU_toNat (x : Int) (i : Nat) : ((byteU x i).toNat : Int) = (x / 2 ^ (8 * i)) % 256 := by
  have h1 : 0 ≤ (x / 2 ^ (8 * i)) % 256 := Int.emod_nonneg _ (by omega)
  have h2 : (x / 2 ^ (8 * i)) % 256 < 256 := Int.emod_lt_of_pos _ (by omega)
  unfold byteU
  rw [UInt8.toNat_ofNat']
  omega
theorem byteAt_eq (x : Int) (i : Nat) : byteAt x i = ((byteU x i).toNat : Int) := by
  rw [byteU_toNat]
  unfold byteAt IntKind.wrap
  have h : (0 : Int) ≤ 2 ^ (8 * i) := Int.le_of_lt (Int.pow_pos (by omega))
  rw [Int.fdiv_eq_ediv_of_nonneg _ h]
  simp [IntKind.bits, IntKind.signed]
theorem le_eq (w : Nat) (x : Int) : le w x = byteCells (leB w x) := by
  unfold le leB byteCells
  rw [List.map_map]
  apply List.map_congr_left
  intro i _
  simp [byteAt_eq]
theorem emod_step (x : Int) (a b : Int) (ha : 0 < a) (hb : 0 < b) : x % (a * b) = x % a + a * (x / a % b) := by
  have h1 := Int.emod_add_mul_ediv x a
  have h2 := Int.emod_add_mul_ediv (x / a) b
  have h3 : 0 ≤ x % a := Int.emod_nonneg _ (by omega)
  have h4 : x % a < a := Int.emod_lt_of_pos _ ha
  have h5 : 0 ≤ x / a % b := Int.emod_nonneg _ (by omega)
  have h6 : x / a % b < b := Int.emod_lt_of_pos _ hb
  have e : x = (x % a + a * (x / a % b)) + (a * b) * (x / a / b) := by
    have : a * (x / a) = a * (x / a % b) + a * b * (x / a / b) := by
      rw [Int.mul_assoc, ← Int.mul_add, h2]
    omega
  have hlt : x % a + a * (x / a % b) < a * b := by
    have : a * (x / a % b + 1) ≤ a * b := Int.mul_le_mul_of_nonneg_left (by omega) (by omega)
    rw [Int.mul_add, Int.mul_one] at this
    omega
  have hnn : 0 ≤ a * (x / a % b) := Int.mul_nonneg (by omega) h5
  generalize hr : x % a + a * (x / a % b) = r at e hlt ⊢
  rw [e, Int.add_mul_emod_self_left]
  exact Int.emod_eq_of_lt (by omega) hlt
theorem leN_leB (A B : List UInt8) (w : Nat) (x : Int) : ∀ k, k ≤ w → (leN (A ++ (leB w x ++ B)) A.length k : Int) = x % 2 ^ (8 * k)
  | 0, _ => by simp [leN]
  | k + 1, hk => by
    have ih := leN_leB A B w x k (by omega)
    have hg : (A ++ (leB w x ++ B)).getD (A.length + k) 0 = byteU x k := by
      have : (leB w x ++ B)[k]? = some (byteU x k) := by
        rw [List.getElem?_append_left (by rw [leB_len]; omega)]
        simp [leB, List.getElem?_range (show k < w by omega)]
      simp [List.getElem?_append_right, this]
    unfold leN
    rw [hg]
    have hp : (0 : Int) < 2 ^ (8 * k) := Int.pow_pos (by omega)
    have := emod_step x (2 ^ (8 * k)) 256 hp (by omega)
    rw [show (2 : Int) ^ (8 * (k + 1)) = 2 ^ (8 * k) * 256 by rw [show 8 * (k + 1) = 8 * k + 8 by omega, Int.pow_add]; rfl, this, ← byteU_toNat, ← ih]
    simp [Int.mul_comm]
theorem leN_at {A B l : List UInt8} {w : Nat} {x : Int} {a : Nat} (hl : l = A ++ (leB w x ++ B)) (ha : A.length = a) (h0 : 0 ≤ x) (h1 : x < 2 ^ (8 * w)) : (leN l a w : Int) = x := by
  subst hl ha
  rw [leN_leB A B w x w (Nat.le_refl _), Int.emod_eq_of_lt h0 h1]
def Sym.enc (x : Sym) (s : Srt) : List UInt8 := leB 4 x.name ++ (leB 1 s.info ++ (leB 1 0 ++ (leB 2 x.sec ++ (leB 8 x.value ++ leB 8 x.size))))
theorem byteCells_append (a b : List UInt8) : byteCells (a ++ b) = byteCells a ++ byteCells b := by simp [byteCells]
theorem Sym.bytes_eq (x : Sym) (s : Srt) : x.bytes s = byteCells (x.enc s) := by
  simp [Sym.bytes, Sym.enc, byteCells_append, le_eq]
theorem Sym.enc_len (x : Sym) (s : Srt) : (x.enc s).length = 24 := by simp [Sym.enc, leB_len]
theorem sortOf_info (s : Srt) : sortOf s.info = some s := by
  cases s with
  | fn g => cases g <;> rfl
  | tab => rfl
  | ext => rfl
theorem sortOf_eq {x : Int} {s : Srt} (h : sortOf x = some s) : x = s.info := by
  unfold sortOf at h
  split at h
  · simp only [Option.some.injEq] at h
    subst h
    assumption
  · split at h
    · simp only [Option.some.injEq] at h
      subst h
      assumption
    · split at h
      · simp only [Option.some.injEq] at h
        subst h
        assumption
      · split at h
        · simp only [Option.some.injEq] at h
          subst h
          assumption
        · cases h
theorem Srt.info_le (s : Srt) : 1 ≤ s.info ∧ s.info ≤ 18 := by
  cases s with
  | fn g => cases g <;> decide
  | tab => decide
  | ext => decide
theorem sortOk_spec {x : Sym} {s : Srt} (h : x.sortOk = some s) : 16 * x.binding + x.kind = s.info ∧ 0 ≤ x.binding ∧ x.binding ≤ 1 ∧ 0 ≤ x.kind ∧ x.kind ≤ 2 ∧ 0 ≤ x.name ∧ x.name ≤ 4294967295 ∧ x.sec = s.sec ∧ s.value x.value = true ∧ s.size x.size = true := by
  unfold Sym.sortOk at h
  split at h
  · rename_i hb
    split at h
    · cases h
    · rename_i s' hs
      split at h
      · rename_i hc
        simp only [Option.some.injEq] at h
        subst h
        exact ⟨sortOf_eq hs, hb.1, hb.2.1, hb.2.2.1, hb.2.2.2, hc.1, hc.2.1, hc.2.2.1, hc.2.2.2.1, hc.2.2.2.2⟩
      · cases h
  · cases h
theorem Srt.value_nn {s : Srt} {x : Int} (h : s.value x = true) : 0 ≤ x := by
  cases s <;> simp [Srt.value] at h <;> omega
theorem Srt.size_nn {s : Srt} {x : Int} (h : s.size x = true) : 0 ≤ x := by
  cases s <;> simp [Srt.size] at h <;> omega
theorem Srt.sec_le (s : Srt) : 0 ≤ s.sec ∧ s.sec ≤ 2 := by cases s <;> simp [Srt.sec]
theorem wrap_id {x : Int} (h0 : 0 ≤ x) (h1 : x ≤ 9223372036854775807) : IntKind.wrap .i64 x = x := wrap_i64 (by omega) h1
/-- An entry's bytes are read as the symbol. -/
theorem entry_enc {x : Sym} {s : Srt} (h : x.sortOk = some s) (hw : x.wf) : entryOf (x.enc s) = (x, some s, -1) := by
  obtain ⟨h1, h2, h3, h4, h5, h6, h7, h8, h9, h10⟩ := sortOk_spec h
  have hi := s.info_le
  have hsec := s.sec_le
  have v0 := Srt.value_nn h9
  have z0 := Srt.size_nn h10
  have e4 : (x.enc s).getD 4 0 = byteU s.info 0 := by simp [Sym.enc, List.getElem?_append, leB_len]; rfl
  have e5 : (x.enc s).getD 5 0 = byteU 0 0 := by simp [Sym.enc, List.getElem?_append, leB_len]; rfl
  have t4 : ((byteU s.info 0).toNat : Int) = s.info := by
    rw [byteU_toNat]
    simp
    omega
  have t5 : (byteU 0 0).toNat = 0 := by
    have := byteU_toNat 0 0
    simp at this
    omega
  have n0 : (leN (x.enc s) 0 4 : Int) = x.name := leN_at (A := []) (l := x.enc s) (w := 4) rfl rfl h6 (by omega)
  have n6 : (leN (x.enc s) 6 2 : Int) = x.sec := leN_at (A := leB 4 x.name ++ (leB 1 s.info ++ leB 1 0)) (B := leB 8 x.value ++ leB 8 x.size) (w := 2) (by simp [Sym.enc]) (by simp [leB_len]) (by omega) (by omega)
  have n8 : (leN (x.enc s) 8 8 : Int) = x.value := leN_at (A := leB 4 x.name ++ (leB 1 s.info ++ (leB 1 0 ++ leB 2 x.sec))) (B := leB 8 x.size) (w := 8) (by simp [Sym.enc]) (by simp [leB_len]) v0 (by have := hw.value.2; omega)
  have n16 : (leN (x.enc s) 16 8 : Int) = x.size := leN_at (A := leB 4 x.name ++ (leB 1 s.info ++ (leB 1 0 ++ (leB 2 x.sec ++ leB 8 x.value)))) (B := []) (w := 8) (by simp [Sym.enc]) (by simp [leB_len]) z0 (by have := hw.size.2; omega)
  have hx : symAt (x.enc s) = x := by
    unfold symAt
    rw [n0, n6, n8, n16, e4, wrap_id h6 (by omega), wrap_id (by omega) (by omega), wrap_id v0 hw.value.2, wrap_id z0 hw.size.2]
    have q1 : (((byteU s.info 0).toNat / 16 : Nat) : Int) = x.binding := by omega
    have q2 : (((byteU s.info 0).toNat % 16 : Nat) : Int) = x.kind := by omega
    rw [q1, q2]
  unfold entryOf
  rw [e4, t4, sortOf_info]
  simp only [hx, e5, t5, h8, h9, h10]
  simp
def encs : Ordr → List Sym → List UInt8
  | _, [] => []
  | o, x :: r => match x.sortOk with
    | some s => x.enc s ++ encs (o.step s x.value) r
    | none => []
theorem wrRun_enc : ∀ (l : List Sym) {o o' : Ordr} {c : List D}, wrRun o l = .ok (o', c) → c = byteCells (encs o l)
  | [], o, o', c, h => by
    simp only [wrRun, Except.ok.injEq, Prod.mk.injEq] at h
    rw [← h.2]
    rfl
  | x :: l, o, o', c, h => by
    simp only [wrRun] at h
    split at h
    · cases h
    · rename_i o1 c1 h1
      split at h
      · cases h
      · rename_i o2 c2 h2
        simp only [Except.ok.injEq, Prod.mk.injEq] at h
        obtain ⟨rfl, rfl⟩ := h
        have ih := wrRun_enc l h2
        unfold wr1 at h1
        split at h1
        · cases h1
        · rename_i s hs
          split at h1
          · simp only [Except.ok.injEq, Prod.mk.injEq] at h1
            obtain ⟨rfl, rfl⟩ := h1
            simp only [encs, hs, byteCells_append, Sym.bytes_eq, ih]
          · cases h1
theorem rdA_encs : ∀ (l : List Sym) {o o' : Ordr} {c : List D} (acc : List Sym) (at_ : Nat), wrRun o l = .ok (o', c) → (∀ x ∈ l, x.wf) → rdA o acc at_ (encs o l) = (acc ++ l, 0, 0)
  | [], o, o', c, acc, at_, h, hw => by
    rw [rdA]
    simp [encs]
  | x :: l, o, o', c, acc, at_, h, hw => by
    simp only [wrRun] at h
    split at h
    · cases h
    · rename_i o1 c1 h1
      split at h
      · cases h
      · rename_i o2 c2 h2
        unfold wr1 at h1
        split at h1
        · cases h1
        · rename_i s hs
          split at h1
          · rename_i hok
            simp only [Except.ok.injEq, Prod.mk.injEq] at h1
            obtain ⟨rfl, rfl⟩ := h1
            have ih := rdA_encs l (acc ++ [x]) (at_ + 24) h2 fun y hy => hw y (List.mem_cons_of_mem _ hy)
            have hl := x.enc_len s
            have hne : x.enc s ++ encs (o.step s x.value) l ≠ [] := by
              intro h
              have := congrArg List.length h
              simp [hl] at this
            simp only [encs, hs]
            rw [rdA, dif_neg hne, dif_neg (by simp [hl]), List.take_left' hl, entry_enc hs (hw x List.mem_cons_self)]
            simp only [hok, if_true, List.drop_left' hl, ih]
            simp
          · cases h1
theorem encs_len : ∀ (l : List Sym) {o o' : Ordr} {c : List D}, wrRun o l = .ok (o', c) → (encs o l).length = 24 * l.length := by
  intro l o o' c h
  have h1 := wrRun_enc l h
  have h2 := (wrRun_tables l h).2.2
  rw [h1] at h2
  simpa [byteCells] using h2
/-- What is read of what was written. -/
theorem read_back {ss : List Sym} {o : Ordr} {c : List D} (h : wrRun o0 ss = .ok (o, c)) (hw : ∀ x ∈ ss, x.wf) : readOf (List.replicate 24 0 ++ encs o0 ss) = (ss, 0, 0) := by
  unfold readOf
  rw [if_neg (by simp), List.take_left' (by simp), List.drop_left' (by simp)]
  have : (List.replicate 24 (0 : UInt8)).findIdx? (fun b => decide (b ≠ 0)) = none := by decide
  rw [this]
  simp only
  rw [rdA_encs ss [] 24 h hw]
  rfl
theorem rdA_tail : ∀ (l : List Sym) {o o' : Ordr} {c : List D} (acc : List Sym) (at_ : Nat) (tail : List UInt8), wrRun o l = .ok (o', c) → (∀ x ∈ l, x.wf) → rdA o acc at_ (encs o l ++ tail) = rdA o' (acc ++ l) (at_ + 24 * l.length) tail
  | [], o, o', c, acc, at_, tail, h, hw => by
    simp only [wrRun, Except.ok.injEq, Prod.mk.injEq] at h
    rw [h.1]
    simp [encs]
  | x :: l, o, o', c, acc, at_, tail, h, hw => by
    simp only [wrRun] at h
    split at h
    · cases h
    · rename_i o1 c1 h1
      split at h
      · cases h
      · rename_i o2 c2 h2
        simp only [Except.ok.injEq, Prod.mk.injEq] at h
        obtain ⟨rfl, _⟩ := h
        unfold wr1 at h1
        split at h1
        · cases h1
        · rename_i s hs
          split at h1
          · rename_i hok
            simp only [Except.ok.injEq, Prod.mk.injEq] at h1
            obtain ⟨rfl, rfl⟩ := h1
            have ih := rdA_tail l (acc ++ [x]) (at_ + 24) tail h2 fun y hy => hw y (List.mem_cons_of_mem _ hy)
            have hl := x.enc_len s
            have hne : x.enc s ++ (encs (o.step s x.value) l ++ tail) ≠ [] := by
              intro h
              have := congrArg List.length h
              simp [hl] at this
            simp only [encs, hs, List.append_assoc]
            rw [rdA, dif_neg hne, dif_neg (by simp [hl]), List.take_left' hl, entry_enc hs (hw x List.mem_cons_self)]
            simp only [hok, if_true, List.drop_left' hl, ih]
            rw [if_neg (by omega), List.append_assoc, List.length_cons]
            congr 1
            omega
          · cases h1
theorem encs_append : ∀ (a b : List Sym) {o o' : Ordr} {c : List D}, wrRun o a = .ok (o', c) → encs o (a ++ b) = encs o a ++ encs o' b
  | [], b, o, o', c, h => by
    simp only [wrRun, Except.ok.injEq, Prod.mk.injEq] at h
    rw [h.1]
    simp [encs]
  | x :: a, b, o, o', c, h => by
    simp only [wrRun] at h
    split at h
    · cases h
    · rename_i o1 c1 h1
      split at h
      · cases h
      · rename_i o2 c2 h2
        simp only [Except.ok.injEq, Prod.mk.injEq] at h
        obtain ⟨rfl, _⟩ := h
        unfold wr1 at h1
        split at h1
        · cases h1
        · rename_i s hs
          split at h1
          · simp only [Except.ok.injEq, Prod.mk.injEq] at h1
            obtain ⟨rfl, rfl⟩ := h1
            simp only [List.cons_append, encs, hs, List.append_assoc, encs_append a b h2]
          · cases h1
theorem wrRun_take {ss : List Sym} {o : Ordr} {c : List D} (h : wrRun o0 ss = .ok (o, c)) (k : Nat) : ∃ o' c', wrRun o0 (ss.take k) = .ok (o', c') := by
  have := wrRun_append o0 (ss.take k) (ss.drop k)
  rw [List.take_append_drop, h] at this
  cases hr : wrRun o0 (ss.take k) with
  | error e => rw [hr] at this; cases this
  | ok p => exact ⟨p.1, p.2, rfl⟩
/-- A file that ends within an entry. -/
theorem read_cut {ss : List Sym} {o : Ordr} {c : List D} (h : wrRun o0 ss = .ok (o, c)) (hw : ∀ x ∈ ss, x.wf) (part : List UInt8) (h1 : 1 ≤ part.length) (h2 : part.length ≤ 23) :
    readOf (List.replicate 24 0 ++ (encs o0 ss ++ part)) = ([], ((24 * ss.length + 24 + part.length : Nat) : Int), 100) := by
  unfold readOf
  rw [if_neg (by simp), List.take_left' (by simp), List.drop_left' (by simp)]
  have : (List.replicate 24 (0 : UInt8)).findIdx? (fun b => decide (b ≠ 0)) = none := by decide
  rw [this]
  simp only
  have hne : part ≠ [] := by rintro rfl; simp at h1
  rw [rdA_tail ss [] 24 part h hw, rdA, dif_neg hne, dif_pos (by omega)]
  simp
  omega
end Go.Sh
