/- What the document's Decode comes to. -/
import Derived.Test.YtnemobbnlacmjaaDoorShLcodeE
import Derived.Test.YtnemobbnlacmjaaDoorShFref3
set_option linter.unusedVariables false
set_option linter.unusedSimpArgs false
namespace Go.Sh
def refDFns : List (Nat × SFn) := [(213, F213_spindleref3_Decode), (216, F216_spindleref3_One), (220, F220_spindleref3_value), (8, F8_spindleref3_wide)]
/-- The number of so many bytes from a place on, lowest first. -/
def valN (l : List UInt8) : Nat → Nat → Nat
  | _, 0 => 0
  | a, n + 1 => bt l a + 256 * valN l (a + 1) n
theorem valN_lt (l : List UInt8) : ∀ (n a : Nat), valN l a n < 256 ^ n
  | 0, _ => by simp [valN]
  | n + 1, a => by
    have h1 := bt_lt l a
    have h2 := valN_lt l n (a + 1)
    rw [valN, Nat.pow_succ]
    omega
theorem valN_4 (l : List UInt8) (a : Nat) : valN l a 4 = t4 l a := by
  simp only [valN, t4, Nat.add_assoc, Nat.reduceAdd]
  omega
theorem valN_2 (l : List UInt8) (a : Nat) : valN l a 2 = bt l a + 256 * bt l (a + 1) := by
  simp only [valN]
  omega
def valS (l : List UInt8) (a k : Nat) (sg : Bool) : Int := if sg = true ∧ 128 ≤ bt l (a + k - 1) then (valN l a k : Int) - 2 ^ (8 * k) else valN l a k
section
variable {pr : Prog} (hd : Sub refDFns pr) {st : St}
include hd
theorem den_wideD (x : Int) : den pr 8 [.d (.i .i64 x)] st = some (.d (.b (decide (x = 24))), st) := by
  refine den_shut (hd.at 3 rfl) rfl rfl (by simp; rfl) ?_
  simp [F8_spindleref3_wide]
theorem den_valueD {v : V} {l : List UInt8} (hv : SlC 1 v (l.map byC)) (hl : l.length ≤ 140737488355328) {a k : Nat} (hk : 1 ≤ k) (hk4 : k ≤ 4) (h : a + k ≤ l.length) (sg : Bool) : den pr 220 [v, .d (.i .i64 a), .d (.i .i64 k), .d (.b sg)] st = some (.d (.i .i64 (valS l a k sg)), st) := by
  obtain ⟨u, hc, hu⟩ := hv.close
  refine den_shut (hd.at 2 rfl) rfl rfl (by simp [hc]; rfl) ?_
  have hlen := hu.len
  rw [List.length_map] at hlen
  have w0 : IntKind.wrap .i64 ((k : Int) - 1) = (k : Int) - 1 := wrap_i64 (by omega) (by omega)
  simp [F220_spindleref3_value, w0]
  generalize hL : cden pr (.loop _ _ _) _ _ = o
  obtain ⟨r, rfl, hQ⟩ : ∃ r, o = some r ∧ ∃ e, r = (.exit 0, e, s0 [] [] 0 0) ∧ e.get 0 = some u ∧ e.get 1 = some (.d (.i .i64 a)) ∧ e.get 2 = some (.d (.i .i64 k)) ∧ e.get 3 = some (.d (.b sg)) ∧ e.get 9 = some (.d (.i .i64 (valN l a k))) := by
    rw [← hL]
    obtain ⟨J, hJ⟩ : ∃ J : Nat → Env → St → Prop, ∀ n e st, J n e st ↔ (n ≤ k ∧ e = [(0, u), (1, .d (.i .i64 a)), (2, .d (.i .i64 k)), (3, .d (.b sg)), (9, .d (.i .i64 (valN l (a + n) (k - n)))), (10, .d (.i .i64 ((n : Int) - 1)))] ∧ st = s0 [] [] 0 0) := ⟨_, fun _ _ _ => Iff.rfl⟩
    refine loop_j J ?_ (n := k) ?_
    rotate_left
    · rw [hJ]
      exact ⟨Nat.le_refl _, by simp [valN], rfl⟩
    intro n e st hj
    rw [hJ] at hj
    obtain ⟨hn, rfl, rfl⟩ := hj
    cases n with
    | zero =>
      simp [F220_spindleref3_value_b0]
    | succ t =>
      obtain ⟨b, hb⟩ : ∃ b, l[a + t]? = some b := ⟨_, List.getElem?_eq_getElem (by omega)⟩
      have hbt : bt l (a + t) = b.toNat := by simp [bt, hb]
      have w1 : IntKind.wrap .i64 ((a : Int) + (t : Int)) = ((a + t : Nat) : Int) := by rw [wrap_i64 (by omega) (by omega)]; omega
      obtain ⟨q, hq⟩ : ∃ q, q = a + t := ⟨_, rfl⟩
      rw [← hq] at hb w1 hbt
      have hia := hu.iaddr (i := (q : Int)) (k := .i64) (by omega) (by simp; omega)
      have hld := fun st => hu.load (st := st) (i := q) (o := 0) (n := 1) (agg := false) (el := byC b) (by simp [hb]) (by omega) (by omega)
      simp [byC, ofDs] at hia hld
      have hb2 := b.toNat_lt
      have hw : IntKind.wrap .i64 (b.toNat : Int) = b.toNat := wrap_i64 (by omega) (by omega)
      have hvl : valN l (a + (t + 1)) (k - (t + 1)) < 256 ^ 3 := Nat.lt_of_lt_of_le (valN_lt _ _ _) (Nat.pow_le_pow_right (by omega) (by omega))
      have hvs : valN l (a + t) (k - t) = 256 * valN l (a + (t + 1)) (k - (t + 1)) + b.toNat := by
        rw [show k - t = (k - (t + 1)) + 1 by omega, valN, ← hbt, hq, Nat.add_assoc]
        omega
      obtain ⟨X, hX⟩ : ∃ X, X = valN l (a + (t + 1)) (k - (t + 1)) := ⟨_, rfl⟩
      rw [← hX] at hvl hvs ⊢
      have w2 : IntKind.wrap .i64 (256 * (X : Int)) = 256 * X := wrap_i64 (by omega) (by omega)
      have w3 : IntKind.wrap .i64 (256 * (X : Int) + b.toNat) = 256 * X + b.toNat := wrap_i64 (by omega) (by omega)
      have w4 : IntKind.wrap .i64 ((t : Int) - 1) = t - 1 := wrap_i64 (by omega) (by omega)
      simp [F220_spindleref3_value_b0, w1, hia, hld, hw, w2, w3, w4]
      refine ⟨t, by omega, ?_⟩
      rw [hJ]
      exact ⟨by omega, by rw [hvs]; simp, rfl⟩
  obtain ⟨e, rfl, q0, q1, q2, q3, q9⟩ := hQ
  simp [q0, q1, q2, q3, q9]
  have hvl : valN l a k < 256 ^ 4 := Nat.lt_of_lt_of_le (valN_lt _ _ _) (Nat.pow_le_pow_right (by omega) (by omega))
  cases sg with
  | false => simp [valS]
  | true =>
    obtain ⟨b, hb⟩ : ∃ b, l[a + k - 1]? = some b := ⟨_, List.getElem?_eq_getElem (by omega)⟩
    have hbt : bt l (a + k - 1) = b.toNat := by simp [bt, hb]
    have w1 : IntKind.wrap .i64 ((a : Int) + (k : Int)) = a + k := wrap_i64 (by omega) (by omega)
    have w2 : IntKind.wrap .i64 ((a : Int) + k - 1) = ((a + k - 1 : Nat) : Int) := by rw [wrap_i64 (by omega) (by omega)]; omega
    obtain ⟨q, hq⟩ : ∃ q, q = a + k - 1 := ⟨_, rfl⟩
    have hvS : valS l a k true = if 128 ≤ b.toNat then (valN l a k : Int) - 2 ^ (8 * k) else valN l a k := by unfold valS; simp [hbt]
    rw [← hq] at hb w2 hbt
    have hia := hu.iaddr (i := (q : Int)) (k := .i64) (by omega) (by simp; omega)
    have hld := fun st => hu.load (st := st) (i := q) (o := 0) (n := 1) (agg := false) (el := byC b) (by simp [hb]) (by omega) (by omega)
    simp [byC, ofDs] at hia hld
    have w3 : IntKind.wrap .i64 (8 * (k : Int)) = 8 * k := wrap_i64 (by omega) (by omega)
    by_cases h128 : 128 ≤ b.toNat
    · have h128I : (128 : Int) ≤ b.toNat := by omega
      rw [if_pos h128] at hvS
      obtain ⟨P, hP⟩ : ∃ P : Int, P = 2 ^ (8 * k) := ⟨_, rfl⟩
      rw [← hP] at hvS
      have hPb : 0 ≤ P ∧ P ≤ 4294967296 := by
        rw [hP]
        have : k = 1 ∨ k = 2 ∨ k = 3 ∨ k = 4 := by omega
        rcases this with rfl | rfl | rfl | rfl <;> decide
      have w4 : IntKind.wrap .i64 ((valN l a k : Int) - P) = valN l a k - P := wrap_i64 (by omega) (by omega)
      have hsh : shI .shl .i64 1 (8 * (k : Int)) = some (.i .i64 P) := by
        rw [hP]
        have : k = 1 ∨ k = 2 ∨ k = 3 ∨ k = 4 := by omega
        rcases this with rfl | rfl | rfl | rfl <;> rfl
      simp [w1, w2, hia, hld, h128, h128I, w3, hsh, w4, hvS]
    · have h128I : ¬ (128 : Int) ≤ b.toNat := by omega
      rw [if_neg h128] at hvS
      simp [w1, w2, hia, hld, h128, h128I, hvS]
end
theorem valS_2 {l : List UInt8} {a : Nat} : valS l a 2 true = IntKind.wrap .i16 (bt l a + 256 * bt l (a + 1) : Nat) := by
  have h1 := bt_lt l a
  have h2 := bt_lt l (a + 1)
  unfold valS
  rw [valN_2, show a + 2 - 1 = a + 1 by omega]
  simp only [IntKind.wrap, IntKind.signed, IntKind.bits, Bool.true_and, decide_eq_true_eq, show (2 : Int) ^ (16 - 1) = 32768 from rfl, show (2 : Int) ^ 16 = 65536 from rfl, true_and, show (2 : Int) ^ (8 * 2) = 65536 from rfl]
  split <;> split <;> omega
theorem valS_4 {l : List UInt8} {a : Nat} : valS l a 4 true = IntKind.wrap .i32 (t4 l a : Nat) := by
  have h1 := bt_lt l a
  have h2 := bt_lt l (a + 1)
  have h3 := bt_lt l (a + 2)
  have h4 := bt_lt l (a + 3)
  unfold valS
  rw [valN_4, show a + 4 - 1 = a + 3 by omega]
  unfold t4
  simp only [IntKind.wrap, IntKind.signed, IntKind.bits, Bool.true_and, decide_eq_true_eq, show (2 : Int) ^ (32 - 1) = 2147483648 from rfl, show (2 : Int) ^ 32 = 4294967296 from rfl, true_and, show (2 : Int) ^ (8 * 4) = 4294967296 from rfl]
  split <;> split <;> omega
theorem valS_u {l : List UInt8} {a : Nat} : valS l a 4 false = (t4 l a : Nat) := by
  unfold valS
  rw [valN_4]
  simp
theorem wide_imm (x y : Nat) (hx : x < 4294967296) (hy : y < 4294967296) : IntKind.wrap .i64 ((x : Int) + IntKind.wrap .i64 (IntKind.wrap .i32 (y : Nat) * 4294967296)) = IntKind.wrap .i64 ((x + 4294967296 * y : Nat) : Int) := by
  have e64 : ∀ z : Int, IntKind.wrap .i64 z = if 9223372036854775808 ≤ z % 18446744073709551616 then z % 18446744073709551616 - 18446744073709551616 else z % 18446744073709551616 := fun z => by
    simp only [IntKind.wrap, IntKind.signed, IntKind.bits, Bool.true_and, decide_eq_true_eq, show (2 : Int) ^ (64 - 1) = 9223372036854775808 from rfl, show (2 : Int) ^ 64 = 18446744073709551616 from rfl]
  have e32 : IntKind.wrap .i32 (y : Nat) = if 2147483648 ≤ (y : Int) then (y : Int) - 4294967296 else y := by
    simp only [IntKind.wrap, IntKind.signed, IntKind.bits, Bool.true_and, decide_eq_true_eq, show (2 : Int) ^ (32 - 1) = 2147483648 from rfl, show (2 : Int) ^ 32 = 4294967296 from rfl]
    split <;> split <;> omega
  rw [e32, e64, e64, e64]
  split <;> split <;> split <;> split <;> omega
section
variable {pr : Prog} (hR : RefOk pr) (hd : Sub refDFns pr) {st : St}
include hR hd
theorem den_One {v : V} {l : List UInt8} (hv : SlC 1 v (l.map byC)) (hl : l.length ≤ 140737488355328) {s : Nat} (hs : 8 * s ≤ l.length) : den pr 216 [v, .d (.i .i64 s)] st = some (.tup [.agg (ofDs (firstOf (l.drop (8 * s))).1.cells), .d (.i .i64 (firstOf (l.drop (8 * s))).2.1), .d (.i .i64 (firstOf (l.drop (8 * s))).2.2)], st) := by
  obtain ⟨u, hc, hu⟩ := hv.close
  have hlen := hu.len
  rw [List.length_map] at hlen
  have val := fun st a k hk hk4 h sg => den_valueD hd (st := st) (v := u) (l := l) (SlD.c hu) hl (a := a) (k := k) hk hk4 h sg
  refine den_shut (hd.at 1 rfl) rfl rfl (by simp [hc]; rfl) ?_
  have hwd := fun st x => den_wideD hd (st := st) x
  obtain ⟨A, hA⟩ : ∃ A, A = 8 * s := ⟨_, rfl⟩
  have wA : IntKind.wrap .i64 (8 * (s : Int)) = (A : Int) := by rw [wrap_i64 (by omega) (by omega)]; omega
  rw [← hA] at hs ⊢
  obtain ⟨m, hm⟩ : ∃ m, m = l.drop A := ⟨_, rfl⟩
  have hml : m.length = l.length - A := by rw [hm, List.length_drop]
  have hbm : ∀ i, bt m i = bt l (A + i) := fun i => by rw [hm, bt_drop]
  rw [← hm]
  have wL : IntKind.wrap .i64 ((l.length : Int) - A) = (m.length : Int) := by rw [wrap_i64 (by omega) (by omega)]; omega
  by_cases h8 : m.length < 8
  · have h8' : (m.length : Int) < 8 := by omega
    simp [F216_spindleref3_One, hlen, wA, wL, h8', fillV, lay, ofDs, firstOf, h8, noIns, Ins.cells]
  have h8' : ¬ (m.length : Int) < 8 := by omega
  have hbt : ∀ i, i < l.length → ∃ b, l[i]? = some b ∧ bt l i = b.toNat := fun i h => ⟨l[i], List.getElem?_eq_getElem h, by simp [bt, h]⟩
  obtain ⟨b0, e0, q0⟩ := hbt A (by omega)
  obtain ⟨A1, hA1⟩ : ∃ A1, A1 = A + 1 := ⟨_, rfl⟩
  obtain ⟨b1, e1, q1⟩ := hbt A1 (by omega)
  have i0 := hu.iaddr (i := (A : Int)) (k := .i64) (by omega) (by simp; omega)
  have i1 := hu.iaddr (i := (A1 : Int)) (k := .i64) (by omega) (by simp; omega)
  have l0 := fun st => hu.load (st := st) (i := A) (o := 0) (n := 1) (agg := false) (el := byC b0) (by simp [e0]) (by omega) (by omega)
  have l1 := fun st => hu.load (st := st) (i := A1) (o := 0) (n := 1) (agg := false) (el := byC b1) (by simp [e1]) (by omega) (by omega)
  simp [byC, ofDs] at i0 i1 l0 l1
  have z0 := bt_lt l A
  have z1 := bt_lt l A1
  rw [q0] at z0
  rw [q1] at z1
  have m0 : bt m 0 = b0.toNat := by rw [hbm, Nat.add_zero, q0]
  have m1 : bt m 1 = b1.toNat := by rw [hbm, ← hA1, q1]
  have c0 : IntKind.wrap .i64 (b0.toNat : Int) = b0.toNat := wrap_i64 (by omega) (by omega)
  have c1 : IntKind.wrap .i64 (b1.toNat : Int) = b1.toNat := wrap_i64 (by omega) (by omega)
  by_cases h16 : bt m 0 = 24 ∧ m.length < 16
  · have h16' : (m.length : Int) < 16 := by omega
    have hb : b0.toNat = 24 := by omega
    have w24 : IntKind.wrap .i64 24 = 24 := rfl
    simp [F216_spindleref3_One, hlen, wA, wL, h8', fillV, lay, ofDs, firstOf, h8, h16, noIns, Ins.cells, i0, l0, hb, h16', hwd, w24]
  have wA1 : IntKind.wrap .i64 ((A : Int) + 1) = (A1 : Int) := by rw [wrap_i64 (by omega) (by omega)]; omega
  obtain ⟨A2, hA2⟩ : ∃ A2, A2 = A + 2 := ⟨_, rfl⟩
  obtain ⟨A4, hA4⟩ : ∃ A4, A4 = A + 4 := ⟨_, rfl⟩
  have wA2 : IntKind.wrap .i64 ((A : Int) + 2) = (A2 : Int) := by rw [wrap_i64 (by omega) (by omega)]; omega
  have wA4 : IntKind.wrap .i64 ((A : Int) + 4) = (A4 : Int) := by rw [wrap_i64 (by omega) (by omega)]; omega
  have v2 := fun st => val st A2 2 (by omega) (by omega) (by omega) true
  have v4 := fun st => val st A4 4 (by omega) (by omega) (by omega) true
  rw [valS_2] at v2
  rw [valS_4] at v4
  have tm : ∀ i, t4 l (A + i) = t4 m i := fun i => by simp only [t4, hbm, Nat.add_assoc]
  rw [hA4, tm, ← hA4] at v4
  rw [show bt l A2 = bt m 2 by rw [hbm, hA2], show bt l (A2 + 1) = bt m 3 by rw [hbm, hA2, Nat.add_assoc]] at v2
  obtain ⟨T2, hT2⟩ : ∃ T2 : Int, T2 = IntKind.wrap .i16 ((bt m 2 + 256 * bt m 3 : Nat) : Int) := ⟨_, rfl⟩
  obtain ⟨T4, hT4⟩ : ∃ T4 : Int, T4 = IntKind.wrap .i32 ((t4 m 4 : Nat) : Int) := ⟨_, rfl⟩
  rw [← hT2] at v2
  rw [← hT4] at v4
  have v2 : ∀ st, den pr 220 [u, .d (.i .i64 (A2 : Int)), .d (.i .i64 2), .d (.b true)] st = some (.d (.i .i64 T2), st) := v2
  have v4 : ∀ st, den pr 220 [u, .d (.i .i64 (A4 : Int)), .d (.i .i64 4), .d (.b true)] st = some (.d (.i .i64 T4), st) := v4
  have hx : insAt m = ⟨b0.toNat, (b1.toNat : Int) % 16, (b1.toNat : Int) / 16, T2, T4⟩ := by
    rw [hT2, hT4]
    simp [insAt, m0, m1]
  have hm := fun (x : Ins) st => den_rmay hR (st := st) x
  have hmx : ∀ (x : Ins) st, den pr 65 [.agg [.d (.i .i64 x.op), .d (.i .i64 x.dst), .d (.i .i64 x.src), .d (.i .i64 x.off), .d (.i .i64 x.imm)]] st = some (.d (.i .i64 (mayV x)), st) := hm
  have d1 : (b1.toNat : Int).tmod 16 = (b1.toNat : Int) % 16 := Int.tmod_eq_emod_of_nonneg (by omega)
  have d2 : (b1.toNat : Int).tdiv 16 = (b1.toNat : Int) / 16 := Int.tdiv_eq_ediv_of_nonneg (by omega)
  have d3 : IntKind.wrap .i64 ((b1.toNat : Int) / 16) = (b1.toNat : Int) / 16 := wrap_i64 (by omega) (by omega)
  by_cases hop : bt m 0 = 24
  · have hb : b0.toNat = 24 := by omega
    have h16' : ¬ (m.length : Int) < 16 := by omega
    have h16n : ¬ m.length < 16 := by omega
    obtain ⟨A8, hA8⟩ : ∃ A8, A8 = A + 8 := ⟨_, rfl⟩
    obtain ⟨A12, hA12⟩ : ∃ A12, A12 = A + 12 := ⟨_, rfl⟩
    have wA8 : IntKind.wrap .i64 ((A : Int) + 8) = (A8 : Int) := by rw [wrap_i64 (by omega) (by omega)]; omega
    have wA12 : IntKind.wrap .i64 ((A : Int) + 12) = (A12 : Int) := by rw [wrap_i64 (by omega) (by omega)]; omega
    have u4 := fun st => val st A4 4 (by omega) (by omega) (by omega) false
    have u8 := fun st => val st A8 4 (by omega) (by omega) (by omega) false
    have v12 := fun st => val st A12 4 (by omega) (by omega) (by omega) true
    rw [valS_u, hA4, tm, ← hA4] at u4
    rw [valS_u, hA8, tm, ← hA8] at u8
    rw [valS_4, hA12, tm, ← hA12] at v12
    have b4 : ∀ a, t4 m a < 4294967296 := fun a => by
      have := bt_lt m a
      have := bt_lt m (a + 1)
      have := bt_lt m (a + 2)
      have := bt_lt m (a + 3)
      unfold t4
      omega
    have hwi := wide_imm (t4 m 4) (t4 m 12) (b4 4) (b4 12)
    obtain ⟨Y, hY⟩ : ∃ Y : Int, Y = IntKind.wrap .i64 ((t4 m 4 + 4294967296 * t4 m 12 : Nat) : Int) := ⟨_, rfl⟩
    have hwx : wideAt m = ⟨24, (b1.toNat : Int) % 16, (b1.toNat : Int) / 16, T2, Y⟩ := by
      unfold wideAt
      rw [hx, hb, hY]
      rfl
    rw [← hY] at hwi
    obtain ⟨U4, hU4⟩ : ∃ U4 : Int, U4 = ((t4 m 4 : Nat) : Int) := ⟨_, rfl⟩
    obtain ⟨U8, hU8⟩ : ∃ U8 : Nat, U8 = t4 m 8 := ⟨_, rfl⟩
    obtain ⟨V12, hV12⟩ : ∃ V12 : Int, V12 = IntKind.wrap .i32 ((t4 m 12 : Nat) : Int) := ⟨_, rfl⟩
    rw [← hU4, ← hV12] at hwi
    rw [← hU4] at u4
    rw [← hU8] at u8
    rw [← hV12] at v12
    have u4 : ∀ st, den pr 220 [u, .d (.i .i64 (A4 : Int)), .d (.i .i64 4), .d (.b false)] st = some (.d (.i .i64 U4), st) := u4
    have u8 : ∀ st, den pr 220 [u, .d (.i .i64 (A8 : Int)), .d (.i .i64 4), .d (.b false)] st = some (.d (.i .i64 (U8 : Int)), st) := u8
    have v12 : ∀ st, den pr 220 [u, .d (.i .i64 (A12 : Int)), .d (.i .i64 4), .d (.b true)] st = some (.d (.i .i64 V12), st) := v12
    have hfo : firstOf m = if U8 ≠ 0 then (noIns, 0, 31) else if mayV (wideAt m) ≠ 0 then (noIns, 0, 32) else (wideAt m, 2, 0) := by
      unfold firstOf
      rw [if_neg h8, if_pos hop, if_neg h16n, hU8]
    rw [hfo]
    have hmw := hmx (wideAt m)
    rw [hwx] at hmw ⊢
    generalize mayV ⟨24, (b1.toNat : Int) % 16, (b1.toNat : Int) / 16, T2, Y⟩ = M at *
    simp only at hmw
    have w24 : IntKind.wrap .i64 24 = 24 := rfl
    by_cases h0 : U8 = 0
    · by_cases hM : M = 0
      · simp [F216_spindleref3_One, hlen, wA, wL, h8', h16', fillV, lay, ofDs, noIns, Ins.cells, i0, l0, i1, l1, hb, w24, hwd, c0, c1, wA1, wA2, wA4, wA8, wA12, v2, v4, u4, u8, v12, d1, d2, d3, shI_shl, IntKind.bits, hwi, h0, hmw, hM]
      · simp [F216_spindleref3_One, hlen, wA, wL, h8', h16', fillV, lay, ofDs, noIns, Ins.cells, i0, l0, i1, l1, hb, w24, hwd, c0, c1, wA1, wA2, wA4, wA8, wA12, v2, v4, u4, u8, v12, d1, d2, d3, shI_shl, IntKind.bits, hwi, h0, hmw, hM]
    · simp [F216_spindleref3_One, hlen, wA, wL, h8', h16', fillV, lay, ofDs, noIns, Ins.cells, i0, l0, i1, l1, hb, w24, hwd, c0, c1, wA1, wA2, wA4, wA8, wA12, v2, v4, u4, u8, v12, d1, d2, d3, shI_shl, IntKind.bits, hwi, h0]
  · have hb : ¬ b0.toNat = 24 := by omega
    have hbI : ¬ (b0.toNat : Int) = 24 := by omega
    have hfo : firstOf m = if mayV (insAt m) ≠ 0 then (noIns, 0, 32) else (insAt m, 1, 0) := by
      unfold firstOf
      rw [if_neg h8, if_neg hop]
    rw [hfo]
    have hmw := hmx (insAt m)
    rw [hx] at hmw ⊢
    generalize mayV ⟨b0.toNat, (b1.toNat : Int) % 16, (b1.toNat : Int) / 16, T2, T4⟩ = M at *
    simp only at hmw
    by_cases hM : M = 0
    · simp [F216_spindleref3_One, hlen, wA, wL, h8', fillV, lay, ofDs, noIns, Ins.cells, i0, l0, i1, l1, hb, hbI, hwd, c0, c1, wA1, wA2, wA4, v2, v4, d1, d2, d3, hmw, hM]
    · simp [F216_spindleref3_One, hlen, wA, wL, h8', fillV, lay, ofDs, noIns, Ins.cells, i0, l0, i1, l1, hb, hbI, hwd, c0, c1, wA1, wA2, wA4, v2, v4, d1, d2, d3, hmw, hM]
end
end Go.Sh
