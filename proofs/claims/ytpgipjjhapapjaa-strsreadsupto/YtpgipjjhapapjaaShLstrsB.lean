/- String tables: names, places, looking for a place. -/
import Derived.Test.YtpgipjjhapapjaaShLstrs
import Derived.Test.YtpgipjjhapapjaaShFstrs
import Derived.Test.YtpgipjjhapapjaaShFstrings
import Derived.Test.YtpgipjjhapapjaaShFslices
import Derived.Test.YtpgipjjhapapjaaShFcmp
set_option linter.unusedVariables false
set_option linter.unusedSimpArgs false
namespace Go.Sh
def strsFns : List (Nat × SFn) := [(146, F146_strs_isName), (150, F150_strings_IndexByte), (151, F151_strings_Clone), (149, F149_slices_BinarySearch_int_int), (105, F105_cmp_Less_int), (115, F115_cmp_isNaN_int), (152, F152_slices_isNaN_int),
  (139, F139_strs_New), (147, F147_strs_Table_put), (140, F140_strs_Table_Add), (144, F144_strs_Table_At), (142, F142_strs_Table_Bytes), (143, F143_strs_Read), (166, F166_strs_Table_Names), (173, F173_slices_Clone_string_string)]
/-- Which functions are told by what they answer. -/
def SubP (l : List (Nat × (List V → St → Option V))) (pr : Prog) : Prop := ∀ x ∈ l, pr.fn x.1 = none ∧ pr.prim x.1 = some x.2
theorem SubP.den {l : List (Nat × (List V → St → Option V))} {pr : Prog} (h : SubP l pr) (i : Nat) {f : Nat} {g : List V → St → Option V} (hx : l[i]? = some (f, g)) {args : List V} {st : St} {v : V} (hg : g args st = some v) : den pr f args st = some (v, st) := by
  obtain ⟨h1, h2⟩ := h _ (List.mem_of_getElem? hx)
  exact den_prim h1 h2 hg
def strsPrims : List (Nat × (List V → St → Option V)) := [(153, pIdxS), (154, pCln), (148, pIdxB)]
section
variable {pr : Prog} (hp : Sub strsFns pr) (hq : SubP strsPrims pr) {st : St}
include hp hq
theorem den_idxStr (s : List UInt8) : den pr 150 [.d (.s s), .d (.i .u8 0)] st = some (.d (.i .i64 (Lib.indexByte s 0)), st) := by
  have h := fun st => hq.den 0 rfl (args := [.d (.s s), .d (.i .u8 0)]) (st := st) (v := .d (.i .i64 (Lib.indexByte s 0))) rfl
  exact den_shut (hp.at 1 rfl) rfl rfl (by simp; rfl) (by simp [F150_strings_IndexByte, h])
theorem den_clnStr (s : List UInt8) (hs : s.length ≤ 281474976710656) : den pr 151 [.d (.s s)] st = some (.d (.s s), st) := by
  have h := fun st => hq.den 1 rfl (args := [.d (.s s)]) (st := st) (v := .d (.s s)) (by simp [pCln, hs])
  exact den_shut (hp.at 2 rfl) rfl rfl (by simp; rfl) (by simp [F151_strings_Clone, h])
theorem den_isName (s : List UInt8) : den pr 146 [.d (.s s)] st = some (.d (.b (okNm s)), st) := by
  have h := fun st => den_idxStr hp hq (st := st) s
  have hn := idx_neg s
  refine den_shut (hp.at 0 rfl) rfl rfl (by simp; rfl) ?_
  by_cases h0 : s = []
  · subst h0
    simp [F146_strs_isName, okNm]
  · have hl : 0 < s.length := List.length_pos_iff.2 h0
    have he : s.isEmpty = false := by cases s <;> simp at h0 ⊢
    by_cases h1 : s.length ≤ 64
    · have h1' : (s.length : Int) ≤ 64 := by omega
      by_cases h2 : Lib.indexByte s 0 < 0
      · have h3 := hn.1 h2
        have h4 : okNm s = true := by unfold okNm; rw [h3]; simp [hl, h1]
        simp [F146_strs_isName, he, h1', h, h2, h4]
      · have h3 : s.contains 0 = true := by
          cases hc : s.contains 0 with
          | false => exact absurd (hn.2 hc) h2
          | true => rfl
        have h4 : okNm s = false := by unfold okNm; rw [h3]; simp
        simp [F146_strs_isName, he, h1', h, h2, h4]
    · have h1' : ¬ (s.length : Int) ≤ 64 := by omega
      have h4 : okNm s = false := by unfold okNm; simp [h1]
      simp [F146_strs_isName, he, h1', h4]
omit hq in
theorem den_isNaN1 (x : Int) : den pr 115 [.d (.i .i64 x)] st = some (.d (.b false), st) := den_shut (hp.at 5 rfl) rfl rfl (by simp; rfl) (by simp [F115_cmp_isNaN_int])
omit hq in
theorem den_isNaN2 (x : Int) : den pr 152 [.d (.i .i64 x)] st = some (.d (.b false), st) := den_shut (hp.at 6 rfl) rfl rfl (by simp; rfl) (by simp [F152_slices_isNaN_int])
omit hq in
theorem den_less (x y : Int) : den pr 105 [.d (.i .i64 x), .d (.i .i64 y)] st = some (.d (.b (decide (x < y))), st) := by
  have h := fun st x => den_isNaN1 hp (st := st) x
  exact den_shut (hp.at 4 rfl) rfl rfl (by simp; rfl) (by simp [F105_cmp_Less_int, h])
omit hq in
/-- slices.BinarySearch of numbers that rise. -/
theorem den_bsearch {v : V} {xs : List Int} (hv : SlC 1 v (xs.map fun x => [.i .i64 x])) (hs : xs.Pairwise (· < ·)) (hl : xs.length ≤ 140737488355328) (x : Int) :
    ∃ (i : Nat) (b : Bool), den pr 149 [v, .d (.i .i64 x)] st = some (.tup [.d (.i .i64 i), .d (.b b)], st) ∧ i ≤ xs.length ∧ (b = true → xs[i]? = some x) ∧ (b = false → x ∉ xs) := by
  obtain ⟨w, hw, hd⟩ := hv.close
  have hget : ∀ a b : Nat, a < b → ∀ y z, xs[a]? = some y → xs[b]? = some z → y < z := by
    intro a b hab y z hy hz
    have h1 := List.pairwise_iff_getElem.1 hs a b (List.getElem?_eq_some_iff.1 hy).1 (List.getElem?_eq_some_iff.1 hz).1 hab
    rwa [(List.getElem?_eq_some_iff.1 hy).2, (List.getElem?_eq_some_iff.1 hz).2] at h1
  have hless := fun st x y => den_less hp (st := st) x y
  have hnan := fun st x => den_isNaN2 hp (st := st) x
  have hlen := hd.len
  rw [List.length_map] at hlen
  have hia : ∀ k : Nat, k < xs.length → iaddrV 1 w (.d (.i .i64 (k : Int))) = some (elP 1 w k 0) := fun k hk => by
    have := hd.iaddr (i := (k : Int)) (k := .i64) (by omega) (by simpa using hk)
    simpa using this
  have hld : ∀ (k : Nat) y st, xs[k]? = some y → loadV 1 false st (elP 1 w k 0) = some (.d (.i .i64 y)) := fun k y st hk => by
    have := hd.load (st := st) (i := k) (o := 0) (n := 1) (agg := false) (el := [.i .i64 y]) (by simp [hk]) (by omega) (by omega)
    simpa [mkV, ofDs] using this
  obtain ⟨Q, hQd⟩ : ∃ Q : V → Prop, ∀ r, Q r ↔ ∃ (i : Nat) (b : Bool), r = .tup [.d (.i .i64 i), .d (.b b)] ∧ i ≤ xs.length ∧ (b = true → xs[i]? = some x) ∧ (b = false → x ∉ xs) := ⟨_, fun _ => Iff.rfl⟩
  have fin : ∃ r, finish F149_slices_BinarySearch_int_int st0 (cden pr F149_slices_BinarySearch_int_int.body (initE 0 [w, .d (.i .i64 x)]) (start F149_slices_BinarySearch_int_int st0)) = some (r, st0) ∧ Q r := by
    simp [F149_slices_BinarySearch_int_int, hlen]
    generalize hL : cden pr (.loop _ _ _) _ _ = o
    obtain ⟨r, rfl, hQ⟩ : ∃ r, o = some r ∧ ∃ e, ∃ i : Nat, r = (.exit 0, e, s0 [] [] 0 0) ∧ e.get 0 = some w ∧ e.get 1 = some (.d (.i .i64 x)) ∧ e.get 6 = some (.d (.i .i64 xs.length)) ∧ e.get 7 = some (.d (.i .i64 i)) ∧ i ≤ xs.length ∧ (∀ k y, k < i → xs[k]? = some y → y < x) ∧ (∀ k y, i ≤ k → xs[k]? = some y → x ≤ y) := by
      rw [← hL]
      refine loop_j (fun n e s => ∃ i j : Nat, i ≤ j ∧ j ≤ xs.length ∧ n = j - i ∧ e = [(0, w), (1, .d (.i .i64 x)), (6, .d (.i .i64 xs.length)), (7, .d (.i .i64 i)), (8, .d (.i .i64 j))] ∧ s = s0 [] [] 0 0 ∧ (∀ k y, k < i → xs[k]? = some y → y < x) ∧ (∀ k y, j ≤ k → xs[k]? = some y → x ≤ y)) ?_ (n := xs.length)
        ⟨0, xs.length, Nat.zero_le _, Nat.le_refl _, rfl, by simp, rfl, fun k y h => absurd h (by omega), fun k y h hk => absurd (List.getElem?_eq_some_iff.1 hk).1 (by omega)⟩
      rintro n e s ⟨i, j, hij, hj, rfl, rfl, rfl, h1, h2⟩
      rcases Nat.lt_or_ge i j with hlt | hge
      · have hm : (i + j) / 2 < xs.length := by omega
        obtain ⟨y, hy⟩ : ∃ y, xs[(i + j) / 2]? = some y := ⟨_, List.getElem?_eq_getElem hm⟩
        have w1 : IntKind.wrap .i64 ((i : Int) + j) = ((i + j : Nat) : Int) := by rw [wrap_i64 (by omega) (by omega)]; omega
        have w2 : IntKind.wrap .u64 (((i + j : Nat) : Int)) = ((i + j : Nat) : Int) := by
          simp only [IntKind.wrap, IntKind.bits, IntKind.signed]
          exact Int.emod_eq_of_lt (by omega) (by omega)
        have w3 : (((i + j : Nat) : Int)).fdiv 2 = (((i + j) / 2 : Nat) : Int) := fdiv_nat (i + j) 2
        have w4 : IntKind.wrap .i64 (((i + j) / 2 : Nat) : Int) = (((i + j) / 2 : Nat) : Int) := wrap_i64 (by omega) (by omega)
        have w5 : IntKind.wrap .i64 ((((i + j) / 2 : Nat) : Int) + 1) = (((i + j) / 2 + 1 : Nat) : Int) := by rw [wrap_i64 (by omega) (by omega)]; omega
        obtain ⟨m, hme⟩ : ∃ m, m = (i + j) / 2 := ⟨_, rfl⟩
        rw [← hme] at hm hy w3 w4 w5
        have hia := hia m hm
        have hld := fun st => hld m y st hy
        have hlt' : (i : Int) < j := by omega
        obtain ⟨N, hN⟩ : ∃ N : Int, N = ((i + j : Nat) : Int) := ⟨_, rfl⟩
        rw [← hN] at w1 w2 w3
        by_cases hyx : y < x
        · simp [F149_slices_BinarySearch_int_int_b0, hlt, hlt', w1, w2, shI_shr, IntKind.bits, w3, w4, hia, hld, hless, hyx, w5]
          refine ⟨j - (m + 1), by omega, m + 1, j, by omega, hj, rfl, ⟨rfl, rfl⟩, fun k z hk hz => ?_, h2⟩
          rcases Nat.lt_or_ge k m with h | h
          · have := hget k m h z y hz hy
            omega
          · have : k = m := by omega
            subst this
            rw [hy] at hz
            obtain rfl := Option.some.inj hz
            exact hyx
        · simp [F149_slices_BinarySearch_int_int_b0, hlt, hlt', w1, w2, shI_shr, IntKind.bits, w3, w4, hia, hld, hless, hyx]
          refine ⟨m - i, by omega, i, m, by omega, by omega, rfl, ⟨rfl, rfl⟩, h1, fun k z hk hz => ?_⟩
          rcases Nat.lt_or_ge m k with h | h
          · have := hget m k h y z hy hz
            omega
          · have : k = m := by omega
            subst this
            rw [hy] at hz
            obtain rfl := Option.some.inj hz
            omega
      · have : i = j := by omega
        subst this
        simp [F149_slices_BinarySearch_int_int_b0]
        exact ⟨i, rfl, hj, h1, h2⟩
    obtain ⟨e, i, rfl, e0, e1, e6, e7, hi, h1, h2⟩ := hQ
    rcases Nat.lt_or_ge i xs.length with hlt | hge
    · obtain ⟨y, hy⟩ : ∃ y, xs[i]? = some y := ⟨_, List.getElem?_eq_getElem hlt⟩
      have hia := hia i hlt
      have hld := fun st => hld i y st hy
      have hlt' : (i : Int) < xs.length := by omega
      by_cases hyx : y = x
      · refine ⟨.tup [.d (.i .i64 i), .d (.b true)], ?_, (hQd _).2 ⟨i, true, rfl, hi, fun _ => hyx ▸ hy, fun h => by cases h⟩⟩
        simp [e0, e1, e6, e7, hlt, hlt', hia, hld, hyx]
      · refine ⟨.tup [.d (.i .i64 i), .d (.b false)], ?_, (hQd _).2 ⟨i, false, rfl, hi, nofun, fun _ hx => ?_⟩⟩
        · simp [e0, e1, e6, e7, hlt, hlt', hia, hld, hyx, hnan]
        · obtain ⟨k, hk⟩ := List.mem_iff_getElem?.1 hx
          rcases Nat.lt_trichotomy k i with h | h | h
          · have := h1 k x h hk; omega
          · subst h
            rw [hy] at hk
            exact hyx (Option.some.inj hk)
          · have h3 := hget i k h y x hy hk
            have h4 := h2 i y (Nat.le_refl _) hy
            omega
    · have : i = xs.length := by omega
      subst this
      refine ⟨.tup [.d (.i .i64 xs.length), .d (.b false)], ?_, (hQd _).2 ⟨xs.length, false, rfl, Nat.le_refl _, nofun, fun _ hx => ?_⟩⟩
      · simp [e0, e1, e6, e7]
      · obtain ⟨k, hk⟩ := List.mem_iff_getElem?.1 hx
        have := h1 k x (List.getElem?_eq_some_iff.1 hk).1 hk
        omega
  obtain ⟨r, h1, h2⟩ := fin
  obtain ⟨i, b, rfl, h3⟩ := (hQd _).1 h2
  exact ⟨i, b, den_shut (hp.at 3 rfl) rfl rfl (by simp [hw]) h1, h3⟩
end
end Go.Sh
