/- What the functions of the package code come to: reading. -/
import Derived.Test.YtnemobbnlacmjaaDoorShLcode
set_option linter.unusedVariables false
set_option linter.unusedSimpArgs false
namespace Go.Sh
/-- The i-th byte, as a number. -/
def bt (l : List UInt8) (i : Nat) : Nat := (l.getD i 0).toNat
theorem bt_lt (l : List UInt8) (i : Nat) : bt l i < 256 := (l.getD i 0).toNat_lt
theorem bt_app {a b : List UInt8} {i : Nat} (h : i < a.length) : bt (a ++ b) i = bt a i := by simp [bt, List.getElem?_append_left h]
theorem bt_take {l : List UInt8} {i n : Nat} (h : i < n) : bt (l.take n) i = bt l i := by simp [bt, List.getElem?_take, h]
theorem bt_drop {l : List UInt8} {i n : Nat} : bt (l.drop n) i = bt l (n + i) := by simp [bt]
theorem or_u64 {n d i : Nat} (hn : n < 2 ^ i) (hd : n + d * 2 ^ i < 2 ^ 64) : bitI .or .u64 n (d * 2 ^ i : Nat) = some (.i .u64 ((n + d * 2 ^ i : Nat) : Int)) := by
  rw [bit_or, ofInt_nat, ofInt_nat, BitVec.toNat_or, BitVec.toNat_ofNat, BitVec.toNat_ofNat]
  have e2 : IntKind.bits .u64 = 64 := rfl
  rw [e2, Nat.mod_eq_of_lt (by omega), Nat.mod_eq_of_lt (by omega), Nat.or_comm, Nat.mul_comm, ← Nat.two_pow_add_eq_or_of_lt hn, wrap_u64]
  congr 2
  rw [Nat.mul_comm] at hd
  omega
theorem or_u64' {n d i : Nat} (hn : n < 2 ^ i) (hd : n + d * 2 ^ i < 2 ^ 64) : bitI .or .u64 (d * 2 ^ i : Nat) n = some (.i .u64 ((n + d * 2 ^ i : Nat) : Int)) := by
  rw [bit_or, ofInt_nat, ofInt_nat, BitVec.toNat_or, BitVec.toNat_ofNat, BitVec.toNat_ofNat]
  have e2 : IntKind.bits .u64 = 64 := rfl
  rw [e2, Nat.mod_eq_of_lt (by omega), Nat.mod_eq_of_lt (by omega), Nat.mul_comm, ← Nat.two_pow_add_eq_or_of_lt hn, wrap_u64]
  congr 2
  rw [Nat.mul_comm] at hd
  omega
section
variable {pr : Prog} (hp : Sub codeFns pr) {st : St}
include hp
theorem den_take2 {v : V} {l : List UInt8} (hv : SlC 1 v (l.map byC)) (hl : 2 ≤ l.length) : den pr 79 [v, .d (.i .i64 2)] st = some (.d (.i .u64 ((bt l 0 + 256 * bt l 1 : Nat) : Int)), st) := by
  obtain ⟨u, hc, hu⟩ := hv.close
  refine den_shut (hp.at 6 rfl) rfl rfl (by simp [hc]; rfl) ?_
  have hbt : ∀ i, i < l.length → ∃ b, l[i]? = some b ∧ bt l i = b.toNat := fun i h => ⟨l[i], List.getElem?_eq_getElem h, by simp [bt, h]⟩
  obtain ⟨b0, e0, t0⟩ := hbt 0 (by omega)
  obtain ⟨b1, e1, t1⟩ := hbt 1 (by omega)
  have i0 := hu.iaddr (i := 0) (k := .i64) (by omega) (by simp; omega)
  have i1 := hu.iaddr (i := 1) (k := .i64) (by omega) (by simp; omega)
  have l0 := fun st => hu.load (st := st) (i := 0) (o := 0) (n := 1) (agg := false) (el := byC b0) (by simp [e0]) (by omega) (by omega)
  have l1 := fun st => hu.load (st := st) (i := 1) (o := 0) (n := 1) (agg := false) (el := byC b1) (by simp [e1]) (by omega) (by omega)
  have q0 := bt_lt l 0
  have q1 := bt_lt l 1
  rw [t0, t1] at *
  have w0 : IntKind.wrap .u64 (b0.toNat : Int) = b0.toNat := by rw [wrap_u64]; omega
  have w1 : IntKind.wrap .u64 (b1.toNat : Int) = b1.toNat := by rw [wrap_u64]; omega
  have s1 : IntKind.wrap .u64 ((b1.toNat : Int) * 256) = ((b1.toNat * 2 ^ 8 : Nat) : Int) := by rw [wrap_u64]; omega
  have z : bitI .or .u64 0 ((b1.toNat * 2 ^ 8 : Nat) : Int) = some (.i .u64 ((b1.toNat * 2 ^ 8 : Nat) : Int)) := by
    have := or_u64 (n := 0) (d := b1.toNat) (i := 8) (by omega) (by omega)
    simpa using this
  have o1 := or_u64' (n := b0.toNat) (d := b1.toNat) (i := 8) (by omega) (by omega)
  obtain ⟨X, hX⟩ : ∃ X : Int, X = ((b1.toNat * 2 ^ 8 : Nat) : Int) := ⟨_, rfl⟩
  rw [← hX] at s1 z o1
  simp [F79_code_take, i0, i1, l0, l1, byC, ofDs, w0, w1, shI_shl, IntKind.bits, s1, z, o1]
  omega
theorem den_take4 {v : V} {l : List UInt8} (hv : SlC 1 v (l.map byC)) (hl : 4 ≤ l.length) : den pr 79 [v, .d (.i .i64 4)] st = some (.d (.i .u64 ((bt l 0 + 256 * bt l 1 + 65536 * bt l 2 + 16777216 * bt l 3 : Nat) : Int)), st) := by
  obtain ⟨u, hc, hu⟩ := hv.close
  refine den_shut (hp.at 6 rfl) rfl rfl (by simp [hc]; rfl) ?_
  have hbt : ∀ i, i < l.length → ∃ b, l[i]? = some b ∧ bt l i = b.toNat := fun i h => ⟨l[i], List.getElem?_eq_getElem h, by simp [bt, h]⟩
  obtain ⟨b0, e0, t0⟩ := hbt 0 (by omega)
  obtain ⟨b1, e1, t1⟩ := hbt 1 (by omega)
  obtain ⟨b2, e2, t2⟩ := hbt 2 (by omega)
  obtain ⟨b3, e3, t3⟩ := hbt 3 (by omega)
  have i0 := hu.iaddr (i := 0) (k := .i64) (by omega) (by simp; omega)
  have i1 := hu.iaddr (i := 1) (k := .i64) (by omega) (by simp; omega)
  have i2 := hu.iaddr (i := 2) (k := .i64) (by omega) (by simp; omega)
  have i3 := hu.iaddr (i := 3) (k := .i64) (by omega) (by simp; omega)
  have l0 := fun st => hu.load (st := st) (i := 0) (o := 0) (n := 1) (agg := false) (el := byC b0) (by simp [e0]) (by omega) (by omega)
  have l1 := fun st => hu.load (st := st) (i := 1) (o := 0) (n := 1) (agg := false) (el := byC b1) (by simp [e1]) (by omega) (by omega)
  have l2 := fun st => hu.load (st := st) (i := 2) (o := 0) (n := 1) (agg := false) (el := byC b2) (by simp [e2]) (by omega) (by omega)
  have l3 := fun st => hu.load (st := st) (i := 3) (o := 0) (n := 1) (agg := false) (el := byC b3) (by simp [e3]) (by omega) (by omega)
  have q0 := bt_lt l 0
  have q1 := bt_lt l 1
  have q2 := bt_lt l 2
  have q3 := bt_lt l 3
  rw [t0] at q0
  rw [t1] at q1
  rw [t2] at q2
  rw [t3] at q3
  have w0 : IntKind.wrap .u64 (b0.toNat : Int) = b0.toNat := by rw [wrap_u64]; omega
  have w1 : IntKind.wrap .u64 (b1.toNat : Int) = b1.toNat := by rw [wrap_u64]; omega
  have w2 : IntKind.wrap .u64 (b2.toNat : Int) = b2.toNat := by rw [wrap_u64]; omega
  have w3 : IntKind.wrap .u64 (b3.toNat : Int) = b3.toNat := by rw [wrap_u64]; omega
  have s1 : IntKind.wrap .u64 ((b1.toNat : Int) * 256) = ((b1.toNat * 2 ^ 8 : Nat) : Int) := by rw [wrap_u64]; omega
  have s2 : IntKind.wrap .u64 ((b2.toNat : Int) * 65536) = ((b2.toNat * 2 ^ 16 : Nat) : Int) := by rw [wrap_u64]; omega
  have s3 : IntKind.wrap .u64 ((b3.toNat : Int) * 16777216) = ((b3.toNat * 2 ^ 24 : Nat) : Int) := by rw [wrap_u64]; omega
  have o1 := or_u64' (n := b2.toNat * 2 ^ 16) (d := b3.toNat) (i := 24) (by omega) (by omega)
  have o2 : bitI .or .u64 ((b2.toNat * 2 ^ 16 + b3.toNat * 2 ^ 24 : Nat) : Int) ((b1.toNat * 2 ^ 8 : Nat) : Int) = some (.i .u64 ((b1.toNat * 2 ^ 8 + (b2.toNat + b3.toNat * 2 ^ 8) * 2 ^ 16 : Nat) : Int)) := by
    rw [show b2.toNat * 2 ^ 16 + b3.toNat * 2 ^ 24 = (b2.toNat + b3.toNat * 2 ^ 8) * 2 ^ 16 by omega]
    exact or_u64' (n := b1.toNat * 2 ^ 8) (d := b2.toNat + b3.toNat * 2 ^ 8) (i := 16) (by omega) (by omega)
  have o3 : bitI .or .u64 ((b1.toNat * 2 ^ 8 + (b2.toNat + b3.toNat * 2 ^ 8) * 2 ^ 16 : Nat) : Int) (b0.toNat : Int) = some (.i .u64 ((b0.toNat + (b1.toNat + (b2.toNat + b3.toNat * 2 ^ 8) * 2 ^ 8) * 2 ^ 8 : Nat) : Int)) := by
    rw [show b1.toNat * 2 ^ 8 + (b2.toNat + b3.toNat * 2 ^ 8) * 2 ^ 16 = (b1.toNat + (b2.toNat + b3.toNat * 2 ^ 8) * 2 ^ 8) * 2 ^ 8 by omega]
    exact or_u64' (n := b0.toNat) (d := b1.toNat + (b2.toNat + b3.toNat * 2 ^ 8) * 2 ^ 8) (i := 8) (by omega) (by omega)
  rw [t0, t1, t2, t3]
  have hfin : ((b0.toNat + 256 * b1.toNat + 65536 * b2.toNat + 16777216 * b3.toNat : Nat) : Int) = ((b0.toNat + (b1.toNat + (b2.toNat + b3.toNat * 2 ^ 8) * 2 ^ 8) * 2 ^ 8 : Nat) : Int) := by omega
  rw [hfin]
  obtain ⟨X3, hX3⟩ : ∃ X : Int, X = ((b0.toNat + (b1.toNat + (b2.toNat + b3.toNat * 2 ^ 8) * 2 ^ 8) * 2 ^ 8 : Nat) : Int) := ⟨_, rfl⟩
  rw [← hX3] at o3 ⊢
  obtain ⟨X2, hX2⟩ : ∃ X : Int, X = ((b1.toNat * 2 ^ 8 + (b2.toNat + b3.toNat * 2 ^ 8) * 2 ^ 16 : Nat) : Int) := ⟨_, rfl⟩
  rw [← hX2] at o2 o3
  obtain ⟨X1, hX1⟩ : ∃ X : Int, X = ((b2.toNat * 2 ^ 16 + b3.toNat * 2 ^ 24 : Nat) : Int) := ⟨_, rfl⟩
  rw [← hX1] at o1 o2
  obtain ⟨Y1, hY1⟩ : ∃ X : Int, X = ((b1.toNat * 2 ^ 8 : Nat) : Int) := ⟨_, rfl⟩
  rw [← hY1] at s1 o2
  obtain ⟨Y2, hY2⟩ : ∃ X : Int, X = ((b2.toNat * 2 ^ 16 : Nat) : Int) := ⟨_, rfl⟩
  rw [← hY2] at s2 o1
  obtain ⟨Y3, hY3⟩ : ∃ X : Int, X = ((b3.toNat * 2 ^ 24 : Nat) : Int) := ⟨_, rfl⟩
  rw [← hY3] at s3 o1
  simp [F79_code_take, i0, i1, i2, i3, l0, l1, l2, l3, byC, ofDs, w0, w1, w2, w3, shI_shl, IntKind.bits, s1, s2, s3, o1, o2, o3]
end
/-- Four bytes from a place on. -/
def t4 (l : List UInt8) (a : Nat) : Nat := bt l a + 256 * bt l (a + 1) + 65536 * bt l (a + 2) + 16777216 * bt l (a + 3)
def insAt (l : List UInt8) : Ins := ⟨bt l 0, (bt l 1 % 16 : Nat), (bt l 1 / 16 : Nat), IntKind.wrap .i16 (bt l 2 + 256 * bt l 3 : Nat), IntKind.wrap .i32 (t4 l 4 : Nat)⟩
def wideAt (l : List UInt8) : Ins := { insAt l with imm := IntKind.wrap .i64 ((t4 l 4 + 4294967296 * t4 l 12 : Nat) : Int) }
def noIns : Ins := ⟨0, 0, 0, 0, 0⟩
/-- The first instruction of bytes: itself, its slots, the error. -/
def firstOf (l : List UInt8) : Ins × Int × Int :=
  if l.length < 8 then (noIns, 0, 30)
  else if bt l 0 = 24 then
    if l.length < 16 then (noIns, 0, 30)
    else if t4 l 8 ≠ 0 then (noIns, 0, 31)
    else if mayV (wideAt l) ≠ 0 then (noIns, 0, 32) else (wideAt l, 2, 0)
  else if mayV (insAt l) ≠ 0 then (noIns, 0, 32) else (insAt l, 1, 0)
theorem wrap_i16 (x : Int) : IntKind.wrap .i64 (IntKind.wrap .i16 x) = IntKind.wrap .i16 x := by
  have : -32768 ≤ IntKind.wrap .i16 x ∧ IntKind.wrap .i16 x ≤ 32767 := by
    simp only [IntKind.wrap, IntKind.signed, IntKind.bits, Bool.true_and, decide_eq_true_eq, show (2 : Int) ^ (16 - 1) = 32768 from rfl, show (2 : Int) ^ 16 = 65536 from rfl]
    split <;> omega
  exact wrap_i64 (by omega) (by omega)
theorem wrap_i32 (x : Int) : IntKind.wrap .i64 (IntKind.wrap .i32 x) = IntKind.wrap .i32 x := by
  have : -2147483648 ≤ IntKind.wrap .i32 x ∧ IntKind.wrap .i32 x ≤ 2147483647 := by
    simp only [IntKind.wrap, IntKind.signed, IntKind.bits, Bool.true_and, decide_eq_true_eq, show (2 : Int) ^ (32 - 1) = 2147483648 from rfl, show (2 : Int) ^ 32 = 4294967296 from rfl]
    split <;> omega
  exact wrap_i64 (by omega) (by omega)
section
variable {pr : Prog} (hI : IsaOk pr) (hp : Sub codeFns pr) {st : St}
include hI hp
theorem den_first {v : V} {l : List UInt8} (hv : SlC 1 v (l.map byC)) (hl : l.length ≤ 140737488355328) : den pr 77 [v] st = some (.tup [.agg (ofDs (firstOf l).1.cells), .d (.i .i64 (firstOf l).2.1), .d (.i .i64 (firstOf l).2.2)], st) := by
  obtain ⟨u, hc, hu⟩ := hv.close
  refine den_shut (hp.at 4 rfl) rfl rfl (by simp [hc]; rfl) ?_
  have hlen := hu.len
  rw [List.length_map] at hlen
  by_cases h8 : l.length < 8
  · have h8' : (l.length : Int) < 8 := by omega
    simp [F77_code_first, hlen, h8', fillV, lay, ofDs, firstOf, h8, noIns, Ins.cells]
  have h8' : ¬ (l.length : Int) < 8 := by omega
  have hbt : ∀ i, i < l.length → ∃ b, l[i]? = some b ∧ bt l i = b.toNat := fun i h => ⟨l[i], List.getElem?_eq_getElem h, by simp [bt, h]⟩
  obtain ⟨b0, e0, q0⟩ := hbt 0 (by omega)
  obtain ⟨b1, e1, q1⟩ := hbt 1 (by omega)
  have i0 := hu.iaddr (i := 0) (k := .i64) (by omega) (by simp; omega)
  have i1 := hu.iaddr (i := 1) (k := .i64) (by omega) (by simp; omega)
  have l0 := fun st => hu.load (st := st) (i := 0) (o := 0) (n := 1) (agg := false) (el := byC b0) (by simp [e0]) (by omega) (by omega)
  have l1 := fun st => hu.load (st := st) (i := 1) (o := 0) (n := 1) (agg := false) (el := byC b1) (by simp [e1]) (by omega) (by omega)
  have z0 := bt_lt l 0
  have z1 := bt_lt l 1
  rw [q0] at z0
  rw [q1] at z1
  by_cases h16 : bt l 0 = 24 ∧ l.length < 16
  · have h16' : (l.length : Int) < 16 := by omega
    have hb : b0.toNat = 24 := by omega
    simp [F77_code_first, hlen, h8', fillV, lay, ofDs, firstOf, h8, h16, noIns, Ins.cells, i0, l0, byC, hb, h16']
  obtain ⟨w2, hw2, sw2⟩ := hu.slice (lo := some (.d (.i .i64 2))) (hi := none) (a := 2) (b := l.length) (by simp [Bd]) (by simp [Bd]) (by omega) (by simp)
  obtain ⟨w4, hw4, sw4⟩ := hu.slice (lo := some (.d (.i .i64 4))) (hi := none) (a := 4) (b := l.length) (by simp [Bd]) (by simp [Bd]) (by omega) (by simp)
  rw [← List.map_take, ← List.map_drop, List.take_length] at sw2 sw4
  have tk2 := fun st => den_take2 (pr := pr) hp (st := st) sw2.c (by simp; omega)
  have tk4 := fun st => den_take4 (pr := pr) hp (st := st) sw4.c (by simp; omega)
  have c4 : ((b1.toNat : Int).fdiv 16) = (b1.toNat : Int) / 16 := by simpa using fdiv_nat b1.toNat 16
  have c5 : bitI .and .u8 (b1.toNat : Int) 15 = some (.i .u8 ((b1.toNat : Int) % 16)) := by simpa using and_15 b1
  have c0 : IntKind.wrap .i64 (b0.toNat : Int) = b0.toNat := wrap_i64 (by omega) (by omega)
  have c1 : IntKind.wrap .i64 ((b1.toNat : Int) % 16) = (b1.toNat : Int) % 16 := wrap_i64 (by omega) (by omega)
  have c2 : IntKind.wrap .i64 ((b1.toNat : Int) / 16) = (b1.toNat : Int) / 16 := wrap_i64 (by omega) (by omega)
  simp only [bt_drop] at tk2 tk4
  have hm := fun x st => den_may hI (st := st) x
  have hmx : ∀ (x : Ins) st, den pr 27 [.agg [.d (.i .i64 x.op), .d (.i .i64 x.dst), .d (.i .i64 x.src), .d (.i .i64 x.off), .d (.i .i64 x.imm)]] st = some (.d (.i .i64 (mayV x)), st) := hm
  obtain ⟨T2, hT2⟩ : ∃ T2 : Int, T2 = ((bt l 2 + 256 * bt l 3 : Nat) : Int) := ⟨_, rfl⟩
  obtain ⟨T4, hT4⟩ : ∃ T4 : Int, T4 = ((t4 l 4 : Nat) : Int) := ⟨_, rfl⟩
  have tk2 : ∀ st, den pr 79 [w2, .d (.i .i64 2)] st = some (.d (.i .u64 T2), st) := fun st => by rw [hT2]; exact tk2 st
  have tk4 : ∀ st, den pr 79 [w4, .d (.i .i64 4)] st = some (.d (.i .u64 T4), st) := fun st => by rw [hT4]; exact tk4 st
  have hx : insAt l = ⟨b0.toNat, (b1.toNat : Int) % 16, (b1.toNat : Int) / 16, IntKind.wrap .i16 T2, IntKind.wrap .i32 T4⟩ := by
    rw [hT2, hT4]
    simp [insAt, q0, q1]
  by_cases hop : bt l 0 = 24
  · have hb : b0.toNat = 24 := by omega
    have h16' : ¬ (l.length : Int) < 16 := by omega
    have h16n : ¬ l.length < 16 := by omega
    obtain ⟨w8, hw8, sw8⟩ := hu.slice (lo := some (.d (.i .i64 8))) (hi := some (.d (.i .i64 16))) (a := 8) (b := 16) (by simp [Bd]) (by simp [Bd]) (by omega) (by simp; omega)
    rw [← List.map_take, ← List.map_drop] at sw8
    have hl8 : ((l.take 16).drop 8).length = 8 := by simp; omega
    obtain ⟨w12, hw12, sw12⟩ := sw8.slice (lo := some (.d (.i .i64 4))) (hi := none) (a := 4) (b := 8) (by simp [Bd]; omega) (by simp [Bd]) (by omega) (by simp; omega)
    rw [← List.map_take, ← List.map_drop, List.take_of_length_le (by omega)] at sw12
    have tk8 := fun st => den_take4 (pr := pr) hp (st := st) sw8.c (by omega)
    have tk12 := fun st => den_take4 (pr := pr) hp (st := st) sw12.c (by simp; omega)
    simp only [bt_drop] at tk8 tk12
    simp only [bt_take (l := l) (n := 16) (i := 8 + 0) (by omega), bt_take (l := l) (n := 16) (i := 8 + 1) (by omega), bt_take (l := l) (n := 16) (i := 8 + 2) (by omega), bt_take (l := l) (n := 16) (i := 8 + 3) (by omega),
      bt_take (l := l) (n := 16) (i := 8 + (4 + 0)) (by omega), bt_take (l := l) (n := 16) (i := 8 + (4 + 1)) (by omega), bt_take (l := l) (n := 16) (i := 8 + (4 + 2)) (by omega), bt_take (l := l) (n := 16) (i := 8 + (4 + 3)) (by omega)] at tk8 tk12
    have tk8 : ∀ st, den pr 79 [w8, .d (.i .i64 4)] st = some (.d (.i .u64 ((t4 l 8 : Nat) : Int)), st) := tk8
    have tk12 : ∀ st, den pr 79 [w12, .d (.i .i64 4)] st = some (.d (.i .u64 ((t4 l 12 : Nat) : Int)), st) := tk12
    have b4 : ∀ a, t4 l a < 4294967296 := fun a => by
      have := bt_lt l a
      have := bt_lt l (a + 1)
      have := bt_lt l (a + 2)
      have := bt_lt l (a + 3)
      unfold t4
      omega
    have b44 := b4 4
    have b412 := b4 12
    have sh : IntKind.wrap .u64 (((t4 l 12 : Nat) : Int) * 4294967296) = ((t4 l 12 * 2 ^ 32 : Nat) : Int) := by rw [wrap_u64]; omega
    have ho := or_u64 (n := t4 l 4) (d := t4 l 12) (i := 32) (by omega) (by omega)
    have hwx : wideAt l = ⟨24, (b1.toNat : Int) % 16, (b1.toNat : Int) / 16, IntKind.wrap .i16 T2, IntKind.wrap .i64 ((t4 l 4 + t4 l 12 * 2 ^ 32 : Nat) : Int)⟩ := by
      unfold wideAt
      rw [hx, hb, show t4 l 4 + 4294967296 * t4 l 12 = t4 l 4 + t4 l 12 * 2 ^ 32 by omega]
      rfl
    rw [← hT4] at ho
    obtain ⟨T8, hT8⟩ : ∃ T8 : Nat, T8 = t4 l 8 := ⟨_, rfl⟩
    obtain ⟨T12, hT12⟩ : ∃ T12 : Int, T12 = ((t4 l 12 : Nat) : Int) := ⟨_, rfl⟩
    obtain ⟨X, hX⟩ : ∃ X : Int, X = ((t4 l 12 * 2 ^ 32 : Nat) : Int) := ⟨_, rfl⟩
    obtain ⟨Y, hY⟩ : ∃ Y : Int, Y = ((t4 l 4 + t4 l 12 * 2 ^ 32 : Nat) : Int) := ⟨_, rfl⟩
    rw [← hY] at hwx ho
    rw [← hX] at sh ho
    rw [← hT12] at sh
    have tk8 : ∀ st, den pr 79 [w8, .d (.i .i64 4)] st = some (.d (.i .u64 (T8 : Int)), st) := fun st => by rw [hT8]; exact tk8 st
    have tk12 : ∀ st, den pr 79 [w12, .d (.i .i64 4)] st = some (.d (.i .u64 T12), st) := fun st => by rw [hT12]; exact tk12 st
    have hmw := hmx (wideAt l)
    have hfo : firstOf l = if T8 ≠ 0 then (noIns, 0, 31) else if mayV (wideAt l) ≠ 0 then (noIns, 0, 32) else (wideAt l, 2, 0) := by
      unfold firstOf
      rw [if_neg h8, if_pos hop, if_neg h16n, hT8]
    rw [hfo]
    rw [hwx] at hmw ⊢
    generalize mayV ⟨24, (b1.toNat : Int) % 16, (b1.toNat : Int) / 16, IntKind.wrap .i16 T2, IntKind.wrap .i64 Y⟩ = M at *
    simp only at hmw
    have w24 : IntKind.wrap .i64 24 = 24 := rfl
    by_cases h0 : T8 = 0
    · by_cases hM : M = 0
      · simp [F77_code_first, hlen, h8', h16', fillV, lay, ofDs, noIns, Ins.cells, i0, l0, i1, l1, byC, hb, hw2, hw4, tk2, tk4, c4, c5, c0, c1, c2, shI_shr, shI_shl, IntKind.bits, wrap_i16, wrap_i32, w24, hw8, tk8, h0, hw12, tk12, sh, ho, hmw, hM]
      · simp [F77_code_first, hlen, h8', h16', fillV, lay, ofDs, noIns, Ins.cells, i0, l0, i1, l1, byC, hb, hw2, hw4, tk2, tk4, c4, c5, c0, c1, c2, shI_shr, shI_shl, IntKind.bits, wrap_i16, wrap_i32, w24, hw8, tk8, h0, hw12, tk12, sh, ho, hmw, hM]
    · simp [F77_code_first, hlen, h8', h16', fillV, lay, ofDs, noIns, Ins.cells, i0, l0, i1, l1, byC, hb, hw2, hw4, tk2, tk4, c4, c5, c0, c1, c2, shI_shr, shI_shl, IntKind.bits, wrap_i16, wrap_i32, w24, hw8, tk8, h0]
  · have hb : ¬ b0.toNat = 24 := by omega
    have hb' : ¬ (b0.toNat : Int) = 24 := by omega
    have hmw := hmx (insAt l)
    have hfo : firstOf l = if mayV (insAt l) ≠ 0 then (noIns, 0, 32) else (insAt l, 1, 0) := by
      unfold firstOf
      rw [if_neg h8, if_neg hop]
    rw [hfo]
    rw [hx] at hmw ⊢
    generalize mayV ⟨b0.toNat, (b1.toNat : Int) % 16, (b1.toNat : Int) / 16, IntKind.wrap .i16 T2, IntKind.wrap .i32 T4⟩ = M at *
    simp only at hmw
    by_cases hM : M = 0
    · simp [F77_code_first, hlen, h8', fillV, lay, ofDs, noIns, Ins.cells, i0, l0, i1, l1, byC, hb, hb', hw2, hw4, tk2, tk4, c4, c5, c0, c1, c2, shI_shr, shI_shl, IntKind.bits, wrap_i16, wrap_i32, hmw, hM]
    · simp [F77_code_first, hlen, h8', fillV, lay, ofDs, noIns, Ins.cells, i0, l0, i1, l1, byC, hb, hb', hw2, hw4, tk2, tk4, c4, c5, c0, c1, c2, shI_shr, shI_shl, IntKind.bits, wrap_i16, wrap_i32, hmw, hM]
end
end Go.Sh
