/- What the document's Write comes to. -/
import Derived.Test.YtnemobbnlacmjaaShLsymtabJ
set_option linter.unusedVariables false
set_option linter.unusedSimpArgs false
namespace Go.Sh
theorem byteAt_succ {x : Int} (h0 : 0 ≤ x) (i : Nat) : (x.fdiv (2 ^ (8 * i))).tdiv 256 = x.fdiv (2 ^ (8 * (i + 1))) := by
  obtain ⟨n, rfl⟩ := Int.eq_ofNat_of_zero_le h0
  have e : ∀ k : Nat, ((n : Int)).fdiv (2 ^ k) = ((n / 2 ^ k : Nat) : Int) := fun k => by
    have h2 : (2 : Int) ^ k = ((2 ^ k : Nat) : Int) := by simp
    rw [h2, Int.ofNat_fdiv]
  rw [e, e]
  rw [show (256 : Int) = ((256 : Nat) : Int) from rfl, ← Int.ofNat_tdiv]
  congr 1
  rw [Nat.div_div_eq_div_mul, show 8 * (i + 1) = 8 * i + 8 by omega, Nat.pow_add]
theorem fdiv_nn {x : Int} (h0 : 0 ≤ x) (h1 : x ≤ 9223372036854775807) (i : Nat) : 0 ≤ x.fdiv (2 ^ (8 * i)) ∧ x.fdiv (2 ^ (8 * i)) ≤ 9223372036854775807 := by
  obtain ⟨n, rfl⟩ := Int.eq_ofNat_of_zero_le h0
  have h2 : (2 : Int) ^ (8 * i) = ((2 ^ (8 * i) : Nat) : Int) := by simp
  rw [h2, ← Int.ofNat_fdiv]
  exact ⟨Int.natCast_nonneg _, Int.le_trans (Int.ofNat_le.2 (Nat.div_le_self n (2 ^ (8 * i)))) h1⟩
theorem tmod_byte {y : Int} (h0 : 0 ≤ y) : IntKind.wrap .u8 (y.tmod 256) = IntKind.wrap .u8 y := by
  simp only [IntKind.wrap, IntKind.bits, IntKind.signed]
  rw [Int.tmod_eq_emod_of_nonneg h0]
  exact Int.emod_emod_of_dvd _ (by decide)
section
variable {pr : Prog} (hp : Sub refWFns pr) {st : St}
include hp
theorem den_number {bs : List Blk} {ts : List Nat} {fl tf t n : Nat} {cells : List D} {x : Int} {w : Nat} (h0 : 0 ≤ x) (h1 : x ≤ 9223372036854775807) (ht : ts[t]? = some n) (htf : tf ≤ t) (hc : cells.length = n) (hw : w ≤ 8) (hn : n ≤ 140737488355000) :
    den pr 40 [.own 1 n true cells t, .d (.i .i64 x), .d (.i .i64 w)] (s0 bs ts fl tf) = some (.own 1 (n + w) true (cells ++ le w x) t, s0 bs (ts.set t (n + w)) fl tf) := by
  obtain ⟨hlt, htn⟩ := List.getElem?_eq_some_iff.1 ht
  rw [den_fn (hp.at 2 rfl) rfl rfl, start_raw _ rfl]
  simp [F40_spindleref10_number]
  generalize hL : cden pr (.loop _ _ _) _ _ = o
  obtain ⟨r, rfl, hQ⟩ : ∃ r, o = some r ∧ ∃ e, r = (.exit 0, e, s0 bs (ts.set t (n + w)) fl tf) ∧ e.get 0 = some (.own 1 (n + w) true (cells ++ le w x) t) := by
    rw [← hL]
    refine loop_n w (fun i => [(0, .own 1 (n + i) true (cells ++ le i x) t), (1, .d (.i .i64 (x.fdiv (2 ^ (8 * i))))), (2, .d (.i .i64 w)), (7, .d (.i .i64 i))]) (fun i => s0 bs (ts.set t (n + i)) fl tf) ?_ (by simp [le]) (by simp [← htn])
    intro i hi
    rcases Nat.lt_or_ge i w with h | h
    · have h3 : IntKind.wrap .i64 ((i : Int) + 1) = i + 1 := wrap_i64 (by omega) (by omega)
      have h5 : n + (i + 1) ≤ 140737488355328 := by omega
      obtain ⟨n1, n2⟩ := fdiv_nn h0 h1 i
      obtain ⟨n3, n4⟩ := fdiv_nn h0 h1 (i + 1)
      have h6 : IntKind.wrap .i64 (x.fdiv (2 ^ (8 * (i + 1)))) = x.fdiv (2 ^ (8 * (i + 1))) := wrap_i64 (by omega) (by omega)
      have h7 := tmod_byte n1
      have h8 := byteAt_succ h0 i
      have h9 : IntKind.wrap .u8 ((x.fdiv (2 ^ (8 * i))).tmod 256) = byteAt x i := h7
      simp [F40_spindleref10_number_b0, h, h3, h5, h6, h8, h9, fillV, lay, reps, ofDs, appV, vw, hlt, htf, hc, le_len, le_succ, Nat.add_assoc]
    · obtain rfl : i = w := by omega
      simp [F40_spindleref10_number_b0]
  obtain ⟨e, rfl, h0⟩ := hQ
  simp [h0]
end
section
variable {pr : Prog} (hp : Sub refSFns pr) {st : St}
include hp
theorem den_follows {v : V} {ss : List Sym} (hv : SlC 6 v (ss.map Sym.cells)) {i : Nat} {x : Sym} (hx : ss[i]? = some x) {s : Srt} (hs : x.sortOk = some s) {o : Ordr} (ho : (i = 0 ∧ o.last = none) ∨ ∃ l y, 0 < i ∧ ss[i - 1]? = some y ∧ y.sortOk = some l ∧ o.last = some l ∧ o.value = y.value) (h0 : 0 ≤ o.tables) (h1 : o.tables ≤ 281474976710656) (hl : ss.length ≤ 2932031007402) :
    den pr 39 [v, .d (.i .i64 i), .d (.i .i64 o.tables)] st = some (.d (.b (o.ok s x.value)), st) := by
  obtain ⟨u, hc, hu⟩ := hv.close
  have hi := (List.getElem?_eq_some_iff.1 hx).1
  refine den_shut (hp.at 1 rfl) rfl rfl (by simp [hc]; rfl) ?_
  have hso := fun (x : Sym) st => den_refSort hp (st := st) x
  have hia := hu.iaddr (i := (i : Int)) (k := .i64) (by omega) (by simp; omega)
  have hld := fun st => hu.load (st := st) (i := i) (o := 0) (n := 6) (agg := true) (el := x.cells) (by simp [hx]) (by omega) (by simp [Sym.cells])
  have hv4 := fun st => hu.load (st := st) (i := i) (o := 4) (n := 1) (agg := false) (el := x.cells) (by simp [hx]) (by omega) (by simp [Sym.cells])
  have hld : ∀ st, loadV 6 true st (elP 6 u i 0) = some (.agg (ofDs x.cells)) := hld
  have hv4 : ∀ st, loadV 1 false st (elP 6 u i 4) = some (.d (.i .i64 x.value)) := hv4
  have hfa : ∀ i, faddrV 4 (elP 6 u i 0) = some (elP 6 u i 4) := fun i => hu.faddr
  have w16 : IntKind.wrap .i64 (16 * o.tables) = 16 * o.tables := wrap_i64 (by omega) (by omega)
  have hsx := fun st => hso x st
  simp only [Int.toNat_natCast] at hia
  rw [hs] at hsx
  rcases ho with ⟨rfl, hol⟩ | ⟨l, y, hi0, hy, hyl, hol, hov⟩
  · simp at hia
    cases s with
    | fn g => cases g <;> simp [F39_spindleref10_follows, hia, hld, hsx, sortN, Srt.rank, Ordr.ok, hol]
    | tab => by_cases hv : x.value = 16 * o.tables <;> simp [F39_spindleref10_follows, hia, hld, hfa, hv4, hsx, sortN, Srt.rank, Ordr.ok, hol, w16, hv]
    | ext => simp [F39_spindleref10_follows, hia, hld, hsx, sortN, Srt.rank, Ordr.ok, hol]
  · obtain ⟨k, rfl⟩ : ∃ k, i = k + 1 := ⟨i - 1, by omega⟩
    simp only [Nat.add_sub_cancel] at hy
    have hia2 := hu.iaddr (i := (k : Int)) (k := .i64) (by omega) (by simp; omega)
    have hld2 : ∀ st, loadV 6 true st (elP 6 u k 0) = some (.agg (ofDs y.cells)) := fun st => hu.load (st := st) (i := k) (o := 0) (n := 6) (agg := true) (el := y.cells) (by simp [hy]) (by omega) (by simp [Sym.cells])
    have hv42 : ∀ st, loadV 1 false st (elP 6 u k 4) = some (.d (.i .i64 y.value)) := fun st => hu.load (st := st) (i := k) (o := 4) (n := 1) (agg := false) (el := y.cells) (by simp [hy]) (by omega) (by simp [Sym.cells])
    have hsy := fun st => hso y st
    rw [hyl] at hsy
    simp only [Int.toNat_natCast] at hia2
    have w1 : IntKind.wrap .i64 (k : Int) = k := wrap_i64 (by omega) (by omega)
    have hne : ¬ ((k : Int) + 1 = 0) := by omega
    simp only [Int.natCast_add, Int.cast_ofNat_Int] at hia
    cases s with
    | fn g => by_cases hlt : y.value < x.value <;> cases g <;> cases l <;> (try cases ‹Bool›) <;> simp [F39_spindleref10_follows, hia, hld, hsx, hfa, hv4, hia2, hld2, hv42, hsy, sortN, Srt.rank, Ordr.ok, hol, hov, w1, hne, hlt] <;> omega
    | tab => by_cases hv : x.value = 16 * o.tables <;> cases l <;> (try cases ‹Bool›) <;> simp [F39_spindleref10_follows, hia, hld, hfa, hv4, hsx, hia2, hld2, hv42, hsy, sortN, Srt.rank, Ordr.ok, hol, hov, w1, hne, w16, hv]
    | ext => cases l <;> (try cases ‹Bool›) <;> simp [F39_spindleref10_follows, hia, hld, hsx, hia2, hld2, hv42, hsy, sortN, Srt.rank, Ordr.ok, hol, w1, hne]
end
end Go.Sh
