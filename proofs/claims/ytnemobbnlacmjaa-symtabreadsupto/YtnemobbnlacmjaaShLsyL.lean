/- What the document's reader of symbols comes to: an entry. -/
import Derived.Test.YtnemobbnlacmjaaShLsyK
set_option linter.unusedVariables false
set_option linter.unusedSimpArgs false
namespace Go.Sh
theorem wrap_hi {n : Nat} (h : 9223372036854775808 ≤ n) (h' : n < 18446744073709551616) : IntKind.wrap .i64 (n : Int) = (n : Int) - 18446744073709551616 := by
  have e : IntKind.wrap .i64 (n : Int) = if (n : Int) % 18446744073709551616 ≥ 9223372036854775808 then (n : Int) % 18446744073709551616 - 18446744073709551616 else (n : Int) % 18446744073709551616 := by simp [IntKind.wrap, IntKind.bits, IntKind.signed]
  rw [e, if_pos (by omega)]
  omega
/-- The number as it is told, and as the program tells it. -/
theorem tld_cases {n : Nat} (h : n < 18446744073709551616) : (tldZ n = IntKind.wrap .i64 (n : Int) ∧ 0 ≤ tldZ n) ∨ (tldZ n = -1 ∧ IntKind.wrap .i64 (n : Int) < 0) := by
  unfold tldZ
  by_cases hx : 9223372036854775808 ≤ n
  · rw [if_pos hx, wrap_hi hx h]
    exact .inr ⟨rfl, by omega⟩
  · rw [if_neg hx, wrap_i64 (by omega) (by omega)]
    exact .inl ⟨rfl, by omega⟩
theorem val_tld {n : Nat} (h : n < 18446744073709551616) (s : Srt) : s.value (tldZ n) = s.value (IntKind.wrap .i64 (n : Int)) ∧ s.size (tldZ n) = s.size (IntKind.wrap .i64 (n : Int)) := by
  rcases tld_cases h with ⟨e, _⟩ | ⟨e1, e2⟩
  · rw [e]; exact ⟨rfl, rfl⟩
  · rw [e1]
    generalize IntKind.wrap .i64 (n : Int) = z at *
    cases s <;> simp [Srt.value, Srt.size] <;> omega
def dsz : Srt → Int
  | .fn _ => 8
  | .tab => 16
  | .ext => 0
section
variable {nm : Int} (h0 : 0 ≤ nm) (h1 : nm ≤ 4294967295)
include h0 h1
theorem srt1 (s : Srt) (sec : Int) : sortB ⟨nm, s.info / 16, s.info % 16, sec, 0, dsz s⟩ = if sec = s.sec then s.rank else 0 := by
  have a0 : ¬ nm < 0 := by omega
  have a1 : ¬ 4294967295 < nm := by omega
  by_cases hs : sec = s.sec
  · cases s with
    | fn g => cases g <;> simp [sortB, a0, a1, Srt.info, Srt.sec, Srt.rank, dsz, hs]
    | tab => simp [sortB, a0, a1, Srt.info, Srt.sec, Srt.rank, dsz, hs]
    | ext => simp [sortB, a0, a1, Srt.info, Srt.sec, Srt.rank, dsz, hs]
  · rw [if_neg hs]
    cases s with
    | fn g =>
      simp only [Srt.sec] at hs
      cases g <;> simp [sortB, a0, a1, Srt.info, dsz, hs]
    | tab =>
      simp only [Srt.sec] at hs
      simp [sortB, a0, a1, Srt.info, dsz, hs]
    | ext =>
      simp only [Srt.sec] at hs
      simp [sortB, a0, a1, Srt.info, dsz, hs]
theorem srt2 (s : Srt) (V : Int) : sortB ⟨nm, s.info / 16, s.info % 16, s.sec, V, dsz s⟩ = if s.value V = true then s.rank else 0 := by
  have a0 : ¬ nm < 0 := by omega
  have a1 : ¬ 4294967295 < nm := by omega
  cases s with
  | fn g => cases g <;> simp [sortB, a0, a1, Srt.info, Srt.sec, Srt.rank, dsz, Srt.value]
  | tab => simp [sortB, a0, a1, Srt.info, Srt.sec, Srt.rank, dsz, Srt.value]
  | ext => simp [sortB, a0, a1, Srt.info, Srt.sec, Srt.rank, dsz, Srt.value]
theorem srt3 (s : Srt) (V S : Int) (hv : s.value V = true) : sortB ⟨nm, s.info / 16, s.info % 16, s.sec, V, S⟩ = if s.size S = true then s.rank else 0 := by
  have a0 : ¬ nm < 0 := by omega
  have a1 : ¬ 4294967295 < nm := by omega
  cases s with
  | fn g =>
    simp only [Srt.value, decide_eq_true_eq] at hv
    cases g <;> simp [sortB, a0, a1, Srt.info, Srt.sec, Srt.rank, dsz, Srt.size, hv.1, hv.2]
  | tab =>
    simp only [Srt.value, decide_eq_true_eq] at hv
    simp [sortB, a0, a1, Srt.info, Srt.sec, Srt.rank, dsz, Srt.size, hv.1, hv.2]
  | ext =>
    simp only [Srt.value, decide_eq_true_eq] at hv
    simp [sortB, a0, a1, Srt.info, Srt.sec, Srt.rank, dsz, Srt.size, hv]
end
theorem rank_ne (s : Srt) : ¬ s.rank = 0 := by cases s with
  | fn g => cases g <;> simp [Srt.rank]
  | tab => simp [Srt.rank]
  | ext => simp [Srt.rank]
section
variable {pr : Prog} (hr : Sub refSFns pr)
include hr
/-- The sorts of an entry's symbol: in its section, with its value, whole. -/
theorem srtL {nm : Int} (h0 : 0 ≤ nm) (h1 : nm ≤ 4294967295) (s : Srt) : (∀ sec st, den pr 38 [.agg (ofDs [.i .i64 nm, .i .i64 (s.info / 16), .i .i64 (s.info % 16), .i .i64 sec, .i .i64 0, .i .i64 (dsz s)])] st = some (.d (.i .i64 (if sec = s.sec then s.rank else 0)), st)) ∧
    (∀ V st, den pr 38 [.agg (ofDs [.i .i64 nm, .i .i64 (s.info / 16), .i .i64 (s.info % 16), .i .i64 s.sec, .i .i64 V, .i .i64 (dsz s)])] st = some (.d (.i .i64 (if s.value V = true then s.rank else 0)), st)) ∧
    ∀ V S, s.value V = true → ∀ st, den pr 38 [.agg (ofDs [.i .i64 nm, .i .i64 (s.info / 16), .i .i64 (s.info % 16), .i .i64 s.sec, .i .i64 V, .i .i64 S])] st = some (.d (.i .i64 (if s.size S = true then s.rank else 0)), st) := by
  refine ⟨fun sec st => ?_, fun V st => ?_, fun V S hv st => ?_⟩
  · rw [← srt1 h0 h1 s sec]; exact den_refSortB hr (st := st) ⟨nm, s.info / 16, s.info % 16, sec, 0, dsz s⟩
  · rw [← srt2 h0 h1 s V]; exact den_refSortB hr (st := st) ⟨nm, s.info / 16, s.info % 16, s.sec, V, dsz s⟩
  · rw [← srt3 h0 h1 s V S hv]; exact den_refSortB hr (st := st) ⟨nm, s.info / 16, s.info % 16, s.sec, V, S⟩
end
section
variable {pr : Prog} (hd : Sub refYFns pr) (hr : Sub refSFns pr) {st : St}
def docSym (l : List UInt8) : Sym := ⟨tldZ (leN l 0 4), ((l.getD 4 0).toNat / 16 : Nat), ((l.getD 4 0).toNat % 16 : Nat), tldZ (leN l 6 2), tldZ (leN l 8 8), tldZ (leN l 16 8)⟩
include hd hr
set_option maxHeartbeats 4000000 in
theorem den_entryY {v : V} {l : List UInt8} (hv : SlC 1 v (l.map byC)) (hl : l.length = 24) : den pr 43 [v] st = some (.tup [.agg (ofDs (docSym l).cells), .d (.i .i64 (entryOf l).2.2)], st) := by
  obtain ⟨u, hc, hu⟩ := hv.close
  refine den_shut (hd.at 1 rfl) rfl rfl (by simp [hc]; rfl) ?_
  have told : ∀ (a b : Nat) (lo hi : Option V), Bd lo 0 a → Bd hi 24 b → a ≤ b → b ≤ a + 8 → b ≤ 24 → ∃ w, slcV 1 u lo hi none = some w ∧ ∀ st, den pr 60 [w] st = some (.d (.i .i64 (tldZ (leN l a (b - a)))), st) := by
    intro a b lo hi h1 h2 h3 h4 h5
    obtain ⟨w, k1, k2⟩ := hu.slice (lo := lo) (hi := hi) (a := a) (b := b) (by simpa [hl] using h2) h1 h3 (by simp; omega)
    refine ⟨w, k1, fun st => ?_⟩
    have e : ((l.map byC).take b).drop a = ((l.drop a).take (b - a)).map byC := by rw [← List.map_take, ← List.map_drop, List.drop_take]
    rw [e] at k2
    have := den_toldY hd (st := st) k2.c (by rw [List.length_take]; omega)
    rwa [toN_le l a (b - a) (by omega)] at this
  obtain ⟨w1, s1, t1⟩ := told 0 4 none (some (.d (.i .i64 4))) (by simp [Bd]) (by simp [Bd]) (by omega) (by omega) (by omega)
  obtain ⟨w2, s2, t2⟩ := told 6 8 (some (.d (.i .i64 6))) (some (.d (.i .i64 8))) (by simp [Bd]) (by simp [Bd]) (by omega) (by omega) (by omega)
  obtain ⟨w3, s3, t3⟩ := told 8 16 (some (.d (.i .i64 8))) (some (.d (.i .i64 16))) (by simp [Bd]) (by simp [Bd]) (by omega) (by omega) (by omega)
  obtain ⟨w4, s4, t4⟩ := told 16 24 (some (.d (.i .i64 16))) (some (.d (.i .i64 24))) (by simp [Bd]) (by simp [Bd]) (by omega) (by omega) (by omega)
  simp only [Nat.reduceSub] at t1 t2 t3 t4
  obtain ⟨b4, hb4⟩ : ∃ b, l[4]? = some b := ⟨_, List.getElem?_eq_getElem (by omega)⟩
  obtain ⟨b5, hb5⟩ : ∃ b, l[5]? = some b := ⟨_, List.getElem?_eq_getElem (by omega)⟩
  have i4 := hu.iaddr (i := 4) (k := .i64) (by omega) (by simp; omega)
  have i5 := hu.iaddr (i := 5) (k := .i64) (by omega) (by simp; omega)
  have l4 := fun st => hu.load (st := st) (i := 4) (o := 0) (n := 1) (agg := false) (el := byC b4) (by simp [hb4]) (by omega) (by omega)
  have l5 := fun st => hu.load (st := st) (i := 5) (o := 0) (n := 1) (agg := false) (el := byC b5) (by simp [hb5]) (by omega) (by omega)
  have lt4 := b4.toNat_lt
  have c2 : IntKind.wrap .i64 ((b4.toNat : Int) / 16) = (b4.toNat : Int) / 16 := wrap_i64 (by omega) (by omega)
  have c3 : IntKind.wrap .i64 ((b4.toNat : Int) % 16) = (b4.toNat : Int) % 16 := wrap_i64 (by omega) (by omega)
  have c4 : (b4.toNat : Int).tdiv 16 = (b4.toNat : Int) / 16 := by simp [Int.tdiv_eq_ediv]
  have c5 : (b4.toNat : Int).tmod 16 = (b4.toNat : Int) % 16 := by simp [Int.tmod_eq_emod]
  have c6 : IntKind.wrap .u8 ((b4.toNat : Int) / 16) = (b4.toNat : Int) / 16 := wrap_u8 (by omega) (by omega)
  have c7 : IntKind.wrap .u8 ((b4.toNat : Int) % 16) = (b4.toNat : Int) % 16 := wrap_u8 (by omega) (by omega)
  have h4 : l.getD 4 0 = b4 := by simp [hb4]
  have h5 : l.getD 5 0 = b5 := by simp [hb5]
  have hsrt := fun (x : Sym) st => den_refSortB hr (st := st) x
  have hn0 : leN l 0 4 < 4294967296 := by have := leN_lt l 0 4; simpa using this
  have hn6 : leN l 6 2 < 65536 := by have := leN_lt l 6 2; simpa using this
  have hn8 : leN l 8 8 < 18446744073709551616 := by have := leN_lt l 8 8; simpa using this
  have hn16 : leN l 16 8 < 18446744073709551616 := by have := leN_lt l 16 8; simpa using this
  unfold entryOf symAt docSym
  rw [h4, h5]
  generalize leN l 0 4 = n0 at *
  generalize leN l 6 2 = n6 at *
  generalize leN l 8 8 = n8 at *
  generalize leN l 16 8 = n16 at *
  have e0 : tldZ n0 = n0 := by unfold tldZ; rw [if_neg (by omega)]
  have e6 : tldZ n6 = n6 := by unfold tldZ; rw [if_neg (by omega)]
  have f6 : IntKind.wrap .i64 (n6 : Int) = n6 := wrap_i64 (by omega) (by omega)
  rw [e0] at t1 ⊢
  rw [e6] at t2 ⊢
  have v8 := fun s => (val_tld hn8 s).1
  have v16 := fun s => (val_tld hn16 s).2
  simp only [f6]
  obtain ⟨Z8, hZ8⟩ : ∃ z, z = tldZ n8 := ⟨_, rfl⟩
  obtain ⟨Z16, hZ16⟩ : ∃ z, z = tldZ n16 := ⟨_, rfl⟩
  obtain ⟨Z6, hZ6⟩ : ∃ z : Int, z = n6 := ⟨_, rfl⟩
  simp only [← v8, ← v16, ← hZ8, ← hZ16, ← hZ6]
  rw [← hZ6] at t2
  rw [← hZ8] at t3
  rw [← hZ16] at t4
  simp only [Sym.cells] at hsrt
  simp [byC, ofDs] at i4 i5 l4 l5
  cases hso : sortOf (b4.toNat : Int) with
  | none =>
    unfold sortOf at hso
    have q1 : ¬ (b4.toNat : Int) = 2 := fun e => by simp [e] at hso
    have q2 : ¬ (b4.toNat : Int) = 1 := fun e => by simp [e] at hso
    have q3 : ¬ (b4.toNat : Int) = 18 := fun e => by simp [e] at hso
    have q4 : ¬ (b4.toNat : Int) = 16 := fun e => by simp [e] at hso
    have p1 : ¬ b4.toNat = 2 := by omega
    have p2 : ¬ b4.toNat = 1 := by omega
    have p3 : ¬ b4.toNat = 18 := by omega
    have p4 : ¬ b4.toNat = 16 := by omega
    simp [F43_spindleref10_entry, s1, s2, s3, s4, t1, t2, t3, t4, i4, i5, l4, l5, c2, c3, c4, c5, c6, c7, ofDs, fillV, lay, Sym.cells, q1, q2, q3, q4, p1, p2, p3, p4]
  | some s =>
    have hin : (b4.toNat : Int) = s.info := by
      unfold sortOf at hso
      split at hso
      · obtain rfl := Option.some.inj hso; assumption
      split at hso
      · obtain rfl := Option.some.inj hso; assumption
      split at hso
      · obtain rfl := Option.some.inj hso; assumption
      split at hso
      · obtain rfl := Option.some.inj hso; assumption
      · cases hso
    rcases s with (_ | _) | _ | _
    · have hb : b4.toNat = 2 := by simp [Srt.info] at hin; omega
      have o := srtL (pr := pr) hr (nm := (n0 : Int)) (by omega) (by omega) (.fn false)
      simp [Srt.info, dsz, ofDs, Srt.sec] at o
      obtain ⟨o1, o2, o3⟩ := o
      by_cases e5 : b5.toNat = 0 <;> by_cases e6 : Z6 = 1 <;> cases e8 : (Srt.value (.fn false) Z8) <;> cases e16 : (Srt.size (.fn false) Z16) <;>
        simp [F43_spindleref10_entry, s1, s2, s3, s4, t1, t2, t3, t4, i4, i5, l4, l5, hb, wrap_i64, wrap_u8, ofDs, fillV, lay, Sym.cells, o1, o2, o3, e5, e6, e8, e16, rank_ne, Srt.sec]
    · have hb : b4.toNat = 18 := by simp [Srt.info] at hin; omega
      have o := srtL (pr := pr) hr (nm := (n0 : Int)) (by omega) (by omega) (.fn true)
      simp [Srt.info, dsz, ofDs, Srt.sec] at o
      obtain ⟨o1, o2, o3⟩ := o
      by_cases e5 : b5.toNat = 0 <;> by_cases e6 : Z6 = 1 <;> cases e8 : (Srt.value (.fn true) Z8) <;> cases e16 : (Srt.size (.fn true) Z16) <;>
        simp [F43_spindleref10_entry, s1, s2, s3, s4, t1, t2, t3, t4, i4, i5, l4, l5, hb, wrap_i64, wrap_u8, ofDs, fillV, lay, Sym.cells, o1, o2, o3, e5, e6, e8, e16, rank_ne, Srt.sec]
    · have hb : b4.toNat = 1 := by simp [Srt.info] at hin; omega
      have o := srtL (pr := pr) hr (nm := (n0 : Int)) (by omega) (by omega) (.tab)
      simp [Srt.info, dsz, ofDs, Srt.sec] at o
      obtain ⟨o1, o2, o3⟩ := o
      by_cases e5 : b5.toNat = 0 <;> by_cases e6 : Z6 = 2 <;> cases e8 : (Srt.value (.tab) Z8) <;> cases e16 : (Srt.size (.tab) Z16) <;>
        simp [F43_spindleref10_entry, s1, s2, s3, s4, t1, t2, t3, t4, i4, i5, l4, l5, hb, wrap_i64, wrap_u8, ofDs, fillV, lay, Sym.cells, o1, o2, o3, e5, e6, e8, e16, rank_ne, Srt.sec]
    · have hb : b4.toNat = 16 := by simp [Srt.info] at hin; omega
      have o := srtL (pr := pr) hr (nm := (n0 : Int)) (by omega) (by omega) (.ext)
      simp [Srt.info, dsz, ofDs, Srt.sec] at o
      obtain ⟨o1, o2, o3⟩ := o
      by_cases e5 : b5.toNat = 0 <;> by_cases e6 : Z6 = 0 <;> cases e8 : (Srt.value (.ext) Z8) <;> cases e16 : (Srt.size (.ext) Z16) <;>
        simp [F43_spindleref10_entry, s1, s2, s3, s4, t1, t2, t3, t4, i4, i5, l4, l5, hb, wrap_i64, wrap_u8, ofDs, fillV, lay, Sym.cells, o1, o2, o3, e5, e6, e8, e16, rank_ne, Srt.sec]
end
end Go.Sh
