/- What the document's reader of symbols comes to: numbers. -/
import Derived.Test.YtnemobbnlacmjaaShLsymtabK
import Derived.Test.YtnemobbnlacmjaaShLsymtabD
set_option linter.unusedVariables false
set_option linter.unusedSimpArgs false
namespace Go.Sh
def refYFns : List (Nat × SFn) := [(42, F42_spindleref10_Read), (43, F43_spindleref10_entry), (60, F60_spindleref10_told)]
theorem wrapY64 (x : Int) : IntKind.wrap .u64 x = x % 18446744073709551616 := by simp [IntKind.wrap, IntKind.signed, IntKind.bits]
def toN : List UInt8 → Nat
  | [] => 0
  | b :: r => b.toNat + 256 * toN r
theorem toN_lt (L : List UInt8) : toN L < 256 ^ L.length := by
  induction L with
  | nil => simp [toN]
  | cons b r ih =>
    have := b.toNat_lt
    rw [toN, List.length_cons, Nat.pow_succ]
    omega
theorem toN_snoc (L : List UInt8) (b : UInt8) : toN (L ++ [b]) = toN L + b.toNat * 256 ^ L.length := by
  induction L with
  | nil => simp [toN]
  | cons a r ih =>
    rw [List.cons_append, toN, ih, toN, List.length_cons, Nat.pow_succ]
    have : b.toNat * (256 ^ r.length * 256) = 256 * (b.toNat * 256 ^ r.length) := by rw [← Nat.mul_assoc, Nat.mul_comm]
    omega
theorem toN_le (l : List UInt8) (a : Nat) : ∀ w, a + w ≤ l.length → toN ((l.drop a).take w) = leN l a w
  | 0, _ => by simp [toN, leN]
  | w + 1, h => by
    have h1 : (l.drop a)[w]? = some (l.getD (a + w) 0) := by
      rw [List.getElem?_drop, List.getD_eq_getElem?_getD, List.getElem?_eq_getElem (by omega)]
      rfl
    rw [List.take_add_one, h1, Option.toList, toN_snoc, toN_le l a w (by omega), leN, List.length_take, List.length_drop, Nat.min_eq_left (by omega), Nat.pow_mul]
/-- A number as the document tells it. -/
def tldZ (x : Nat) : Int := if 9223372036854775808 ≤ x then -1 else x
section
variable {pr : Prog} (hd : Sub refYFns pr) {st : St}
include hd
theorem den_toldY {v : V} {l : List UInt8} (hv : SlC 1 v (l.map byC)) (hl : l.length ≤ 8) : den pr 60 [v] st = some (.d (.i .i64 (tldZ (toN l))), st) := by
  obtain ⟨u, hc, hu⟩ := hv.close
  refine den_shut (hd.at 2 rfl) rfl rfl (by simp [hc]; rfl) ?_
  have hlen := hu.len
  rw [List.length_map] at hlen
  have w0 : IntKind.wrap .i64 ((l.length : Int) - 1) = (l.length : Int) - 1 := wrap_i64 (by omega) (by omega)
  simp [F60_spindleref10_told, w0, hlen]
  generalize hL : cden pr (.loop _ _ _) _ _ = o
  obtain ⟨r, rfl, hQ⟩ : ∃ r, o = some r ∧ ∃ e, r = (.exit 0, e, s0 [] [] 0 0) ∧ e.get 3 = some (.d (.i .u64 (toN l))) := by
    rw [← hL]
    obtain ⟨J, hJ⟩ : ∃ J : Nat → Env → St → Prop, ∀ n e st, J n e st ↔ (n ≤ l.length ∧ e = [(0, u), (3, .d (.i .u64 (toN (l.drop n)))), (4, .d (.i .i64 ((n : Int) - 1)))] ∧ st = s0 [] [] 0 0) := ⟨_, fun _ _ _ => Iff.rfl⟩
    refine loop_j J ?_ (n := l.length) ?_
    rotate_left
    · rw [hJ]
      exact ⟨Nat.le_refl _, by simp [toN], rfl⟩
    intro n e st hj
    rw [hJ] at hj
    obtain ⟨hn, rfl, rfl⟩ := hj
    cases n with
    | zero => simp [F60_spindleref10_told_b0]
    | succ t =>
      obtain ⟨b, hb⟩ : ∃ b, l[t]? = some b := ⟨_, List.getElem?_eq_getElem (by omega)⟩
      have hia := hu.iaddr (i := (t : Int)) (k := .i64) (by omega) (by simp; omega)
      have hld := fun st => hu.load (st := st) (i := t) (o := 0) (n := 1) (agg := false) (el := byC b) (by simp [hb]) (by omega) (by omega)
      simp [byC, ofDs] at hia hld
      have hb2 := b.toNat_lt
      have hdr : l.drop t = b :: l.drop (t + 1) := by
        rw [List.drop_eq_getElem_cons (by omega)]
        congr 1
        exact (List.getElem?_eq_some_iff.1 hb).2
      have hvs : toN (l.drop t) = b.toNat + 256 * toN (l.drop (t + 1)) := by rw [hdr, toN]
      have hvl : toN (l.drop (t + 1)) < 256 ^ 7 := Nat.lt_of_lt_of_le (toN_lt _) (Nat.pow_le_pow_right (by omega) (by rw [List.length_drop]; omega))
      obtain ⟨X, hX⟩ : ∃ X, X = toN (l.drop (t + 1)) := ⟨_, rfl⟩
      rw [← hX] at hvl hvs ⊢
      have hw : IntKind.wrap .u64 (b.toNat : Int) = b.toNat := by rw [wrapY64]; omega
      have w2 : IntKind.wrap .u64 ((X : Int) * 256) = X * 256 := by rw [wrapY64]; omega
      have w3 : IntKind.wrap .u64 ((X : Int) * 256 + b.toNat) = X * 256 + b.toNat := by rw [wrapY64]; omega
      have w4 : IntKind.wrap .i64 ((t : Int) - 1) = t - 1 := wrap_i64 (by omega) (by omega)
      simp [F60_spindleref10_told_b0, hia, hld, hw, w2, w3, w4]
      refine ⟨t, by omega, ?_⟩
      rw [hJ, hvs]
      exact ⟨by omega, by simp; omega, rfl⟩
  obtain ⟨e, rfl, h3⟩ := hQ
  have hb : toN l < 18446744073709551616 := Nat.lt_of_lt_of_le (toN_lt l) (by
    have : (256 : Nat) ^ l.length ≤ 256 ^ 8 := Nat.pow_le_pow_right (by omega) hl
    simpa using this)
  by_cases hx : 9223372036854775808 ≤ toN l
  · have hxI : (9223372036854775808 : Int) ≤ (toN l : Int) := by omega
    simp [h3, hx, hxI, tldZ]
  · have hxI : ¬ (9223372036854775808 : Int) ≤ (toN l : Int) := by omega
    have w5 : IntKind.wrap .i64 (toN l : Int) = toN l := wrap_i64 (by omega) (by omega)
    simp [h3, hx, hxI, tldZ, w5]
end
end Go.Sh
