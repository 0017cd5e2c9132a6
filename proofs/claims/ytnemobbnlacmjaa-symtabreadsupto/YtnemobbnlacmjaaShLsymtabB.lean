/- What the functions of the package symtab come to: reading. -/
import Derived.Test.YtnemobbnlacmjaaShLsymtab
set_option linter.unusedVariables false
set_option linter.unusedSimpArgs false
namespace Go.Sh
/-- The number in so many bytes from a place on, the lowest first. -/
def leN (l : List UInt8) (a : Nat) : Nat → Nat
  | 0 => 0
  | w + 1 => leN l a w + (l.getD (a + w) 0).toNat * 2 ^ (8 * w)
theorem leN_lt (l : List UInt8) (a : Nat) : ∀ w, leN l a w < 2 ^ (8 * w)
  | 0 => by simp [leN]
  | w + 1 => by
    have h1 := leN_lt l a w
    have h2 : (l.getD (a + w) 0).toNat ≤ 255 := by have := (l.getD (a + w) 0).toNat_lt; omega
    have h3 : (l.getD (a + w) 0).toNat * 2 ^ (8 * w) ≤ 255 * 2 ^ (8 * w) := Nat.mul_le_mul_right _ h2
    have h4 : 2 ^ (8 * (w + 1)) = 256 * 2 ^ (8 * w) := by rw [show 8 * (w + 1) = 8 + 8 * w by omega, Nat.pow_add]
    unfold leN
    omega
section
variable {pr : Prog} (hp : Sub symFns pr) {st : St}
include hp
theorem den_get {v : V} {l : List UInt8} (hv : SlC 1 v (l.map byC)) {a w : Nat} (ha : a + w ≤ l.length) (hl : l.length ≤ 140737488355328) (hw : w ≤ 8) : den pr 64 [v, .d (.i .i64 a), .d (.i .i64 w)] st = some (.d (.i .i64 (IntKind.wrap .i64 (leN l a w))), st) := by
  obtain ⟨u, hc, hu⟩ := hv.close
  refine den_shut (hp.at 19 rfl) rfl rfl (by simp [hc]; rfl) ?_
  simp [F64_symtab_get]
  generalize hL : cden pr (.loop _ _ _) _ _ = o
  obtain ⟨r, rfl, hQ⟩ : ∃ r, o = some r ∧ ∃ e, r = (.exit 0, e, s0 [] [] 0 0) ∧ e.get 7 = some (.d (.i .i64 (IntKind.wrap .i64 (leN l a w)))) := by
    rw [← hL]
    refine loop_n w (fun i => [(0, u), (1, .d (.i .i64 a)), (7, .d (.i .i64 (IntKind.wrap .i64 (leN l a i)))), (9, .d (.i .i64 w)), (10, .d (.i .i64 i))]) (fun _ => s0 [] [] 0 0) ?_ (by simp [leN]; rfl) (by simp)
    intro i hi
    rcases Nat.lt_or_ge i w with h | h
    · obtain ⟨b, hb⟩ : ∃ b, l[a + i]? = some b := ⟨_, List.getElem?_eq_getElem (by omega)⟩
      have hbl := b.toNat_lt
      have h1 : IntKind.wrap .i64 ((i : Int) + 1) = i + 1 := wrap_i64 (by omega) (by omega)
      have h2 : IntKind.wrap .i64 (8 * (i : Int)) = 8 * i := wrap_i64 (by omega) (by omega)
      have h3 : (0 : Int) ≤ 8 * i := by omega
      have h4 : min (8 * (i : Int)).toNat 64 = 8 * i := by omega
      have h5 : IntKind.wrap .i64 ((a : Int) + i) = a + i := wrap_i64 (by omega) (by omega)
      have h6 : ((a : Int) + i).toNat = a + i := by omega
      have h7 : IntKind.wrap .i64 (b.toNat : Int) = b.toNat := wrap_i64 (by omega) (by omega)
      have hia := hu.iaddr (i := (a : Int) + i) (k := .i64) (by omega) (by simp; omega)
      have hld := hu.load (st := s0 [] [] 0 0) (i := a + i) (o := 0) (n := 1) (agg := false) (el := byC b) (by simp [hb]) (by omega) (by omega)
      rw [h6] at hia
      have hlt := leN_lt l a i
      have hor := or_disj (n := leN l a i) (d := b.toNat) (i := 8 * i) hlt (by
        have h8 : b.toNat * 2 ^ (8 * i) ≤ 255 * 2 ^ (8 * i) := Nat.mul_le_mul_right _ (by omega)
        have h9 : 256 * 2 ^ (8 * i) ≤ 2 ^ 64 := by
          rw [show 256 * 2 ^ (8 * i) = 2 ^ (8 + 8 * i) by rw [Nat.pow_add]]
          exact Nat.pow_le_pow_right (by omega) (by omega)
        omega)
      simp [F64_symtab_get_b0, h, h1, h2, h3, h4, h5, h7, shI_shl, IntKind.bits, hia, hld, byC, ofDs, hor, leN, hb]
    · obtain rfl : i = w := by omega
      simp [F64_symtab_get_b0]
  obtain ⟨e, rfl, h0⟩ := hQ
  simp [h0]
end
structure Sym where
  name : Int
  binding : Int
  kind : Int
  sec : Int
  value : Int
  size : Int
  deriving DecidableEq
def Sym.cells (x : Sym) : List D := [.i .i64 x.name, .i .i64 x.binding, .i .i64 x.kind, .i .i64 x.sec, .i .i64 x.value, .i .i64 x.size]
def symAt (l : List UInt8) : Sym := ⟨IntKind.wrap .i64 (leN l 0 4), ((l.getD 4 0).toNat / 16 : Nat), ((l.getD 4 0).toNat % 16 : Nat), IntKind.wrap .i64 (leN l 6 2), IntKind.wrap .i64 (leN l 8 8), IntKind.wrap .i64 (leN l 16 8)⟩
/-- An entry: the symbol, its sort, the place that is wrong. -/
def entryOf (l : List UInt8) : Sym × Option Srt × Int := match sortOf (l.getD 4 0).toNat with
  | none => (⟨0, 0, 0, 0, 0, 0⟩, none, 4)
  | some s => (symAt l, some s, if (l.getD 5 0).toNat ≠ 0 then 5 else if (symAt l).sec ≠ s.sec then 6 else if s.value (symAt l).value = false then 8 else if s.size (symAt l).size = false then 16 else -1)
section
variable {pr : Prog} (hp : Sub symFns pr) {st : St}
include hp
theorem den_entry {v : V} {l : List UInt8} (hv : SlC 1 v (l.map byC)) (hl : l.length = 24) : den pr 59 [v] st = some (.tup [.agg (ofDs (entryOf l).1.cells), .d (optS (entryOf l).2.1), .d (.i .i64 (entryOf l).2.2)], st) := by
  obtain ⟨u, hc, hu⟩ := hv.close
  refine den_shut (hp.at 15 rfl) rfl rfl (by simp [hc]; rfl) ?_
  have hg := fun (a w : Nat) ha hw st => den_get (pr := pr) hp (st := st) hu.c (a := a) (w := w) ha (by omega) hw
  have g1 : ∀ st, den pr 64 [u, .d (.i .i64 0), .d (.i .i64 4)] st = some (.d (.i .i64 (IntKind.wrap .i64 (leN l 0 4))), st) := fun st => hg 0 4 (by omega) (by omega) st
  have g2 : ∀ st, den pr 64 [u, .d (.i .i64 6), .d (.i .i64 2)] st = some (.d (.i .i64 (IntKind.wrap .i64 (leN l 6 2))), st) := fun st => hg 6 2 (by omega) (by omega) st
  have g3 : ∀ st, den pr 64 [u, .d (.i .i64 8), .d (.i .i64 8)] st = some (.d (.i .i64 (IntKind.wrap .i64 (leN l 8 8))), st) := fun st => hg 8 8 (by omega) (by omega) st
  have g4 : ∀ st, den pr 64 [u, .d (.i .i64 16), .d (.i .i64 8)] st = some (.d (.i .i64 (IntKind.wrap .i64 (leN l 16 8))), st) := fun st => hg 16 8 (by omega) (by omega) st
  obtain ⟨b4, hb4⟩ : ∃ b, l[4]? = some b := ⟨_, List.getElem?_eq_getElem (by omega)⟩
  obtain ⟨b5, hb5⟩ : ∃ b, l[5]? = some b := ⟨_, List.getElem?_eq_getElem (by omega)⟩
  have i4 := hu.iaddr (i := 4) (k := .i64) (by omega) (by simp; omega)
  have i5 := hu.iaddr (i := 5) (k := .i64) (by omega) (by simp; omega)
  have l4 := fun st => hu.load (st := st) (i := 4) (o := 0) (n := 1) (agg := false) (el := byC b4) (by simp [hb4]) (by omega) (by omega)
  have l5 := fun st => hu.load (st := st) (i := 5) (o := 0) (n := 1) (agg := false) (el := byC b5) (by simp [hb5]) (by omega) (by omega)
  have hs := fun st => den_sortOf (pr := pr) hp (st := st) (b4.toNat : Int)
  have c1 : IntKind.wrap .i64 (b4.toNat : Int) = b4.toNat := wrap_i64 (by have := b4.toNat_lt; omega) (by have := b4.toNat_lt; omega)
  have c2 : IntKind.wrap .i64 ((b4.toNat : Int) / 16) = (b4.toNat : Int) / 16 := wrap_i64 (by have := b4.toNat_lt; omega) (by have := b4.toNat_lt; omega)
  have c3 : IntKind.wrap .i64 ((b4.toNat : Int) % 16) = (b4.toNat : Int) % 16 := wrap_i64 (by have := b4.toNat_lt; omega) (by have := b4.toNat_lt; omega)
  have c4 : ((b4.toNat : Int).fdiv 16) = (b4.toNat : Int) / 16 := by simpa using fdiv_nat b4.toNat 16
  have c5 : bitI .and .u8 (b4.toNat : Int) 15 = some (.i .u8 ((b4.toNat : Int) % 16)) := by simpa using and_15 b4
  have d45 := fun g st => den45 (pr := pr) hp (st := st) g
  have d46 := fun st => den46 (pr := pr) hp (st := st)
  have d47 := fun st => den47 (pr := pr) hp (st := st)
  have d48 := fun g x st => den48 (pr := pr) hp (st := st) g x
  have d49 := fun x st => den49 (pr := pr) hp (st := st) x
  have d50 := fun x st => den50 (pr := pr) hp (st := st) x
  have d51 := fun g x st => den51 (pr := pr) hp (st := st) g x
  have d52 := fun x st => den52 (pr := pr) hp (st := st) x
  have d53 := fun x st => den53 (pr := pr) hp (st := st) x
  have hx : symAt l = ⟨IntKind.wrap .i64 (leN l 0 4), (b4.toNat / 16 : Nat), (b4.toNat % 16 : Nat), IntKind.wrap .i64 (leN l 6 2), IntKind.wrap .i64 (leN l 8 8), IntKind.wrap .i64 (leN l 16 8)⟩ := by simp [symAt, hb4]
  have h4 : l.getD 4 0 = b4 := by simp [hb4]
  have h5 : l.getD 5 0 = b5 := by simp [hb5]
  unfold entryOf
  rw [h4, h5, hx]
  generalize IntKind.wrap .i64 (leN l 0 4) = n0 at *
  generalize IntKind.wrap .i64 (leN l 6 2) = n6 at *
  generalize IntKind.wrap .i64 (leN l 8 8) = n8 at *
  generalize IntKind.wrap .i64 (leN l 16 8) = n16 at *
  cases hso : sortOf (b4.toNat : Int) with
  | none =>
    rw [hso] at hs
    simp [F59_symtab_entry, i4, l4, byC, c1, hs, ofDs, eqV, optS, fillV, lay, Sym.cells]
  | some s =>
    rw [hso] at hs
    cases s with
    | fn g =>
      by_cases e5 : b5.toNat = 0 <;> by_cases e6 : n6 = (Srt.fn g).sec <;> cases e8 : (Srt.fn g).value n8 <;> cases e16 : (Srt.fn g).size n16 <;>
        simp [F59_symtab_entry, i4, i5, l4, l5, byC, c1, c2, c3, c4, c5, g1, g2, g3, g4, hs, ofDs, eqV, optS, Srt.d, fillV, lay, Sym.cells, shI_shr, IntKind.bits, d45, d46, d47, d48, d49, d50, d51, d52, d53, e5, e6, e8, e16]
    | tab =>
      by_cases e5 : b5.toNat = 0 <;> by_cases e6 : n6 = Srt.tab.sec <;> cases e8 : Srt.tab.value n8 <;> cases e16 : Srt.tab.size n16 <;>
        simp [F59_symtab_entry, i4, i5, l4, l5, byC, c1, c2, c3, c4, c5, g1, g2, g3, g4, hs, ofDs, eqV, optS, Srt.d, fillV, lay, Sym.cells, shI_shr, IntKind.bits, d45, d46, d47, d48, d49, d50, d51, d52, d53, e5, e6, e8, e16]
    | ext =>
      by_cases e5 : b5.toNat = 0 <;> by_cases e6 : n6 = Srt.ext.sec <;> cases e8 : Srt.ext.value n8 <;> cases e16 : Srt.ext.size n16 <;>
        simp [F59_symtab_entry, i4, i5, l4, l5, byC, c1, c2, c3, c4, c5, g1, g2, g3, g4, hs, ofDs, eqV, optS, Srt.d, fillV, lay, Sym.cells, shI_shr, IntKind.bits, d45, d46, d47, d48, d49, d50, d51, d52, d53, e5, e6, e8, e16]
end
end Go.Sh
