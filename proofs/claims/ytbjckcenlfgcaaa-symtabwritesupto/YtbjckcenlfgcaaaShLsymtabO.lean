/- The law SymtabWrites on shadow runs. -/
import Derived.Test.YtbjckcenlfgcaaaShLsymtabN
set_option linter.unusedVariables false
set_option linter.unusedSimpArgs false
namespace Go.Sh
def symsD (x : Bool × List Sym) : D := .sl x.2.length x.1 (x.2.map Sym.cells).flatten
section
variable {pr : Prog} (hp : Sub symFns pr) (hb : Sub bookFns pr) (hd : Sub deskFns pr) (hr : Sub refWFns pr) (hw : Sub lawWFns pr) (hnum : ∀ x st, den pr 12 [.d (.i .i64 x)] st = some (.d (.i .i64 x), st)) (haw : ∀ st, den pr 30 [] st = some (.d (.b true), st))
include hp hb hd hr hw hnum haw
theorem law_SymtabWrites {ls : List (Bool × List Sym)} {u : V} (hu : SlD 1 u (ls.map fun x => [symsD x])) (hN : ls.length ≤ 1048576) (hel : ∀ x ∈ ls, x.2.length ≤ 1048576 ∧ ∀ y ∈ x.2, y.value ≤ 9223372036854775807 ∧ y.size ≤ 9223372036854775807) {st : St} :
    CallW pr 122 [u] st fun v s => s = st ∧ v = .d (.b true) := by
  obtain ⟨h1, nz, hun⟩ := id hu
  refine .run0 wW (hw.at 1 rfl) (show closeA [u] = some [u] by rw [hun]; rfl) rfl rfl (codeC_of ?_)
  have hlen := hu.len
  rw [List.length_map] at hlen
  simp [F122_spindlelaw10_SymtabWrites, wW, haw, ofDs, fillV, lay]
  refine loopW_j wW (fun n e s => ∃ i b id, i ≤ ls.length ∧ n = ls.length - i ∧ e = [(0, u), (3, .ptr 0 0), (4, .ptr 1 0), (5, .d (.i .i64 i))] ∧ SW s 1 0 b id ∧ b.kv.length ≤ 72 * i ∧ b.total ≤ 200000000 * i) ?_ (n := ls.length) ?_
  rotate_left
  · refine ⟨0, ⟨0, 0, .d (.sl 0 false []), .d (.sl 0 false []), .d (.sl 0 false []), .d (.sl 0 false []), .d (.sl 0 false []), none, none, none, none, none, [], [], [], []⟩, none, Nat.zero_le _, rfl, by simp, ⟨⟨rfl, rfl, .nil _ _, .nil _ _, .nil _ _, .nil _ _, .nil _ _, fun x hx => (List.not_mem_nil hx).elim, fun i k w hk => by simp at hk, ?_, fun v hv => by simp at hv, ⟨by simp, by simp⟩, fun x hx => (List.not_mem_nil hx).elim, by simp⟩, ⟨by simp, .inl ⟨rfl, rfl⟩⟩, by simp, ?_⟩, by simp, by simp⟩
    · intro a c i ha hc
      have key : ∀ a i, Bk.lab ⟨0, 0, .d (.sl 0 false []), .d (.sl 0 false []), .d (.sl 0 false []), .d (.sl 0 false []), .d (.sl 0 false []), none, none, none, none, none, [], [], [], []⟩ 1 a = some i → a = 0 := by
        intro a i h
        match a, h with
        | 0, _ => rfl
        | 1, h => cases h
        | 2, h => cases h
        | 3, h => cases h
        | 4, h => cases h
        | 5, h => cases h
        | a + 6, h => simp [Bk.lab] at h
      rw [key a i ha, key c i hc]
    · rintro r (rfl | h)
      · refine ⟨fun a h => ?_, fun v hv => by simp at hv⟩
        match a, h with
        | 0, h => simp [Bk.lab] at h
        | 1, h => cases h
        | 2, h => cases h
        | 3, h => cases h
        | 4, h => cases h
        | 5, h => cases h
        | a + 6, h => simp [Bk.lab] at h
      · cases h
  rintro n e s ⟨i, b, id, hi, rfl, rfl, hsw, hkl, ht⟩
  rcases Nat.lt_or_ge i ls.length with h | h
  rotate_left
  · obtain rfl : i = ls.length := by omega
    have hholds := den_Holds hb hsw.bk
    simp [F122_spindlelaw10_SymtabWrites_b0, wW, hlen, hholds, esc, esc1, escC]
  obtain ⟨x, hx⟩ : ∃ x, ls[i]? = some x := ⟨_, List.getElem?_eq_getElem h⟩
  obtain ⟨hxl, hxs⟩ := hel x (List.mem_of_getElem? hx)
  have h2 : IntKind.wrap .i64 ((i : Int) + 1) = i + 1 := wrap_i64 (by omega) (by omega)
  have hia := hu.iaddr (i := (i : Int)) (k := .i64) (by omega) (by simp; omega)
  have hld : ∀ st, loadV 1 false st (elP 1 u i 0) = some (.d (symsD x)) := fun st => hu.load (st := st) (i := i) (o := 0) (n := 1) (agg := false) (el := [symsD x]) (by simp [hx]) (by omega) (by omega)
  simp only [Int.toNat_natCast] at hia
  have hxu : SlD 6 (.d (symsD x)) (x.2.map Sym.cells) := ⟨fun y hy => by simp only [List.mem_map] at hy; obtain ⟨z, _, rfl⟩ := hy; rfl, x.1, by rw [List.length_map]; rfl⟩
  simp [F122_spindlelaw10_SymtabWrites_b0, wW, hlen, h, hia, hld]
  refine (callW_writes hp hb hd hr hw hnum hsw hxu (by omega) hxs (by omega) (by omega)).mono ?_
  rintro v s1 ⟨rfl, b1, id1, sw1, k1, t1⟩
  simp [wW, hia, hld]
  refine (callW_writes hp hb hd hr hw hnum sw1 hxu (by omega) hxs (by omega) (by omega)).mono ?_
  rintro v s2 ⟨rfl, b2, id2, sw2, k2, t2⟩
  simp [wW, hia, hld]
  refine (callW_turned hd hxu (by omega) hxs).mono ?_
  rintro v s2' ⟨rfl, ts, nzt, rfl, htl, hts⟩
  have htu : SlD 6 (.d (.sl ts.length nzt (ts.map Sym.cells).flatten)) (ts.map Sym.cells) := ⟨fun y hy => by simp only [List.mem_map] at hy; obtain ⟨z, _, rfl⟩ := hy; rfl, nzt, by rw [List.length_map]⟩
  simp [wW]
  refine (callW_writes hp hb hd hr hw hnum sw2 htu (by omega) hts (by omega) (by omega)).mono ?_
  rintro v s3 ⟨rfl, b3, id3, sw3, k3, t3⟩
  simp [wW, hia, hld]
  refine (callW_writes hp hb hd hr hw hnum sw3 hxu (by omega) hxs (by omega) (by omega)).mono ?_
  rintro v s4 ⟨rfl, b4, id4, sw4, k4, t4⟩
  simp [wW, h2]
  exact ⟨ls.length - (i + 1), by omega, i + 1, by omega, rfl, rfl, b4, ⟨id4, sw4⟩, by omega, by omega⟩
end
end Go.Sh
