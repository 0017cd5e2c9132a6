/- The laws SymtabBack and SymtabBegins on shadow runs. -/
import Derived.Test.YtbjckcenlfgcaaaShLsymtabE
import Derived.Test.YtbjckcenlfgcaaaShBe
import Derived.Test.YtbjckcenlfgcaaaShFlaw10
import Derived.Test.YtbjckcenlfgcaaaShFlaw0
set_option linter.unusedVariables false
set_option linter.unusedSimpArgs false
namespace Go.Sh
def law10Fns : List (Nat × SFn) := [(12, F12_spindlelaw0_Num), (33, F33_spindlelaw10_sameSymbols), (34, F34_spindlelaw10_SymtabBack), (36, F36_spindlelaw10_SymtabBegins), (35, F35_spindlelaw0_CopyBytes)]
theorem symC (x : Sym) : x.cells.length = 6 := rfl
theorem sym_eq (x y : Sym) : eqV [9, 0, 0, 0, 0, 0, 0] (.agg (ofDs x.cells)) (.agg (ofDs y.cells)) = some (decide (x = y)) := by
  obtain ⟨a, b, c, d, e, f⟩ := x
  obtain ⟨a', b', c', d', e', f'⟩ := y
  simp only [eqV, toDs_ofDs', Sym.cells, List.length_cons, List.length_nil, eqDs, eqK, Sym.mk.injEq]
  by_cases h1 : a = a' <;> by_cases h2 : b = b' <;> by_cases h3 : c = c' <;> by_cases h4 : d = d' <;> by_cases h5 : e = e' <;> by_cases h6 : f = f' <;> simp [h1, h2, h3, h4, h5, h6]
section
variable {pr : Prog} (hq : Sub law10Fns pr) {st : St}
include hq
theorem den_num (x : Int) : den pr 12 [.d (.i .i64 x)] st = some (.d (.i .i64 x), st) := den_shut (hq.at 0 rfl) rfl rfl (by simp; rfl) (by simp [F12_spindlelaw0_Num])
theorem den_sameSymbols {v w : V} {as bs : List Sym} (hv : SlC 6 v (as.map Sym.cells)) (hw : SlC 6 w (bs.map Sym.cells)) (ha : as.length ≤ 9223372036854775806) : den pr 33 [v, w] st = some (.d (.b (decide (as = bs))), st) := by
  obtain ⟨u, hc, hu⟩ := hv.close
  obtain ⟨u', hc', hu'⟩ := hw.close
  refine den_shut (hq.at 1 rfl) rfl rfl (by simp [hc, hc']; rfl) ?_
  have hl := hu.len
  have hl' := hu'.len
  rw [List.length_map] at hl hl'
  by_cases hne : as.length = bs.length
  rotate_left
  · have hne' : ¬ (as.length : Int) = bs.length := by omega
    have : as ≠ bs := fun e => hne (by rw [e])
    simp [F33_spindlelaw10_sameSymbols, hl, hl', hne', this]
  simp [F33_spindlelaw10_sameSymbols, hl, hl', hne]
  generalize hL : cden pr (.loop _ _ _) _ _ = o
  obtain ⟨r, rfl, hQ⟩ : ∃ r, o = some r ∧ ((as = bs ∧ ∃ e, r = (.exit 0, e, s0 [] [] 0 0)) ∨ (as ≠ bs ∧ ∃ e, r = (.ret, e, s0 [] [] 0 0) ∧ e.get 4 = some (.d (.b false)))) := by
    rw [← hL]
    obtain ⟨J, hJ⟩ : ∃ J : Nat → Env → St → Prop, J = (fun n e st => ∃ i : Nat, i ≤ as.length ∧ n = as.length - i ∧ as.take i = bs.take i ∧ st = s0 [] [] 0 0 ∧ e = [(0, u), (1, u'), (5, .d (.i .i64 i))]) := ⟨_, rfl⟩
    refine loop_j J ?_ (n := as.length) ?_
    rotate_left
    · rw [hJ]
      exact ⟨0, by omega, by omega, by simp, rfl, by simp⟩
    intro n e st hj
    rw [hJ] at hj
    obtain ⟨i, hi, rfl, htk, rfl, rfl⟩ := hj
    rcases Nat.lt_or_ge i as.length with h | h
    · obtain ⟨x, hx⟩ : ∃ x, as[i]? = some x := ⟨_, List.getElem?_eq_getElem h⟩
      obtain ⟨y, hy⟩ : ∃ y, bs[i]? = some y := ⟨_, List.getElem?_eq_getElem (by omega)⟩
      have h1 : IntKind.wrap .i64 ((i : Int) + 1) = i + 1 := wrap_i64 (by omega) (by omega)
      have hia := hu.iaddr (i := (i : Int)) (k := .i64) (by omega) (by simp; omega)
      have hld := fun st => hu.load (st := st) (i := i) (o := 0) (n := 6) (agg := true) (el := x.cells) (by simp [hx]) (by omega) (by omega)
      have hia' := hu'.iaddr (i := (i : Int)) (k := .i64) (by omega) (by simp; omega)
      have hld' := fun st => hu'.load (st := st) (i := i) (o := 0) (n := 6) (agg := true) (el := y.cells) (by simp [hy]) (by omega) (by omega)
      have ht : ∀ x : Sym, x.cells.take 6 = x.cells := fun x => List.take_of_length_le (by simp [symC])
      by_cases hxy : x = y
      · subst hxy
        simp [F33_spindlelaw10_sameSymbols_b0, hl, h, hia, hld, hia', hld', ht, sym_eq, h1]
        refine ⟨as.length - (i + 1), by omega, ?_⟩
        rw [hJ]
        exact ⟨i + 1, by omega, rfl, by rw [List.take_add_one, List.take_add_one, htk, hx, hy], rfl, by simp⟩
      · have hab : as ≠ bs := by
          rintro rfl
          rw [hx] at hy
          exact hxy (Option.some.inj hy)
        simp [F33_spindlelaw10_sameSymbols_b0, hl, h, hia, hld, hia', hld', ht, sym_eq, h1, hxy, hab]
    · have hab : as = bs := by
        rw [List.take_of_length_le (by omega), List.take_of_length_le (by omega)] at htk
        exact htk
      have : i = as.length := by omega
      simp [F33_spindlelaw10_sameSymbols_b0, hl, this]
      exact hab
  rcases hQ with ⟨hab, e, rfl⟩ | ⟨hab, e, rfl, h4⟩
  · simp [hab]
  · simp [h4, hab]
theorem den_copyBytes {nz : Bool} {L : List UInt8} (hl : L.length ≤ 140737488355328) : den pr 35 [bsl nz L] st = some (bsl true L, st) := by
  refine den_shut (hq.at 4 rfl) rfl rfl (by simp; rfl) ?_
  simp [F35_spindlelaw0_CopyBytes, fillV, reps, ofDs, appV, byteCells_len, hl]
  rfl
end
theorem zeros24_eq : zeros24 = byteCells (List.replicate 24 0) := rfl
theorem readOut_eq (r : List Sym × Int × Int) : readOut r = .tup [dsl Sym.cells (decide (0 < r.1.length)) r.1, .d (.i .i64 r.2.1), .d (.i .i64 r.2.2)] := rfl
/-- The bytes of symbols. -/
def symFile (ss : List Sym) : List UInt8 := List.replicate 24 0 ++ encs o0 ss
theorem symFile_len {ss : List Sym} {o : Ordr} {c : List D} (h : wrRun o0 ss = .ok (o, c)) : (symFile ss).length = 24 * ss.length + 24 := by
  unfold symFile
  rw [List.length_append, List.length_replicate, encs_len ss h]
  omega
/-- What Write gives, in bytes. -/
theorem wrOut_ok {ss : List Sym} {o : Ordr} {c : List D} (h : wrRun o0 ss = .ok (o, c)) : wrOut ss = [bsl true (symFile ss), .d (.i .i64 0)] := by
  unfold wrOut symFile
  rw [h]
  simp only [bsl, byteCells_app, List.length_append, List.length_replicate, encs_len ss h, ← zeros24_eq, wrRun_enc ss h]
  rw [show 24 * ss.length + 24 = 24 + 24 * ss.length by omega]
theorem wr_err : ∀ (l : List Sym) {o : Ordr} {k : Int}, wrRun o l = .error k → k = 100 ∨ k = 101
  | [], o, k, h => by simp [wrRun] at h
  | x :: l, o, k, h => by
    simp only [wrRun] at h
    split at h
    · rename_i e he
      simp only [Except.error.injEq] at h
      subst h
      unfold wr1 at he
      split at he
      · simp only [Except.error.injEq] at he; omega
      · split at he
        · cases he
        · simp only [Except.error.injEq] at he; omega
    · split at h
      · rename_i h2
        simp only [Except.error.injEq] at h
        subst h
        exact wr_err l h2
      · cases h
section
variable {pr : Prog} (hp : Sub symFns pr) (hq : Sub law10Fns pr) (haw : ∀ st, den pr 30 [] st = some (.d (.b true), st)) {st : St}
include hp hq haw
theorem law_SymtabBack (nz : Bool) (ss : List Sym) (hl : ss.length ≤ 2932031007402) (hw : ∀ x ∈ ss, x.wf) : den pr 34 [dsl Sym.cells nz ss] st = some (.d (.b true), st) := by
  refine den_shut (hq.at 2 rfl) rfl rfl (by simp; rfl) ?_
  have hcp := appV_copy symC (nz := nz) (l := ss) (bytes := 48) (ts := [0]) (bs := []) (fl := 0) (tf := 0) (t := 0) rfl (by omega) (by omega) (by omega)
  have hwr := fun st => den_Write (pr := pr) hp (st := st) (own_c symC (nz := true) (l := ss) (t := 0) rfl) hl
  have hnum := fun x st => den_num (pr := pr) hq (st := st) x
  cases hr : wrRun o0 ss with
  | error k =>
    have hk := wr_err ss hr
    simp only [wrOut, hr] at hwr
    rcases hk with rfl | rfl
    · simp [F34_spindlelaw10_SymtabBack, haw, fillV, reps, ofDs, hcp, hwr, hnum]
    · simp [F34_spindlelaw10_SymtabBack, haw, fillV, reps, ofDs, hcp, hwr, hnum]
  | ok p =>
    obtain ⟨o, c⟩ := p
    rw [wrOut_ok hr] at hwr
    have hlen := symFile_len hr
    have hrd := fun st => den_Read (pr := pr) hp (st := st) (bsl_c true (symFile ss)) (by omega)
    rw [show readOf (symFile ss) = (ss, 0, 0) from read_back hr hw, readOut_eq] at hrd
    have hsame := fun st => den_sameSymbols (pr := pr) hq (st := st) (dsl_c symC (decide (0 < ss.length)) ss) (dsl_c symC nz ss) (by omega)
    have k1 : IntKind.wrap .i64 (24 * (ss.length : Int)) = 24 * ss.length := wrap_i64 (by omega) (by omega)
    have k2 : IntKind.wrap .i64 (24 * (ss.length : Int) + 24) = 24 * ss.length + 24 := wrap_i64 (by omega) (by omega)
    have k3 : (24 : Int) + 24 * ss.length = 24 * ss.length + 24 := by omega
    simp [F34_spindlelaw10_SymtabBack, haw, fillV, reps, ofDs, hcp, hwr, hnum, hrd, hsame, k1, k2, k3, hlen]
/-- A beginning of symbols that may be written. -/
theorem law_SymtabBegins (nz : Bool) (ss : List Sym) (cut more : Int) (hl : ss.length ≤ 2932031007402) (hw : ∀ x ∈ ss, x.wf) : den pr 36 [dsl Sym.cells nz ss, .d (.i .i64 cut), .d (.i .i64 more)] st = some (.d (.b true), st) := by
  refine den_shut (hq.at 3 rfl) rfl rfl (by simp; rfl) ?_
  have hcp := appV_copy symC (nz := nz) (l := ss) (bytes := 48) (ts := [0]) (bs := []) (fl := 0) (tf := 0) (t := 0) rfl (by omega) (by omega) (by omega)
  have hwr := fun st => den_Write (pr := pr) hp (st := st) (own_c symC (nz := true) (l := ss) (t := 0) rfl) hl
  have hnum := fun x st => den_num (pr := pr) hq (st := st) x
  cases hr : wrRun o0 ss with
  | error k =>
    have hk := wr_err ss hr
    simp only [wrOut, hr] at hwr
    rcases hk with rfl | rfl
    · simp [F36_spindlelaw10_SymtabBegins, haw, fillV, reps, ofDs, hcp, hwr, hnum]
    · simp [F36_spindlelaw10_SymtabBegins, haw, fillV, reps, ofDs, hcp, hwr, hnum]
  | ok p =>
    obtain ⟨o, c⟩ := p
    rw [wrOut_ok hr] at hwr
    have hlen := symFile_len hr
    by_cases c1 : cut < 0
    · simp [F36_spindlelaw10_SymtabBegins, haw, fillV, reps, ofDs, hcp, hwr, hnum, c1]
    by_cases c2 : (ss.length : Int) < cut
    · simp [F36_spindlelaw10_SymtabBegins, haw, fillV, reps, ofDs, hcp, hwr, hnum, c1, c2]
    obtain ⟨k, rfl⟩ : ∃ k : Nat, cut = k := ⟨cut.toNat, by omega⟩
    have hk : k ≤ ss.length := by omega
    have c2' : ¬ ss.length < k := by omega
    obtain ⟨o1, e1, hr1⟩ := wrRun_take hr k
    have hwf1 : ∀ x ∈ ss.take k, x.wf := fun x hx => hw x (List.mem_of_mem_take hx)
    have hl1 : (ss.take k).length = k := by simp; omega
    have hfl : (symFile (ss.take k)).length = 24 * k + 24 := by rw [symFile_len hr1, hl1]
    have hpre : symFile ss = symFile (ss.take k) ++ encs o1 (ss.drop k) := by
      unfold symFile
      rw [List.append_assoc, ← encs_append _ _ hr1, List.take_append_drop]
    have hs1 := dsl_slc symC nz ss (lo := none) (hi := some (.d (.i .i64 (k : Int)))) (a := 0) (b := k) (by simp [Bd]) rfl (by omega) hk
    rw [List.drop_zero] at hs1
    obtain ⟨tk, htk⟩ : ∃ tk, tk = ss.take k := ⟨_, rfl⟩
    rw [← htk] at hr1 hwf1 hl1 hfl hpre hs1
    have hcp1 := appV_copy symC (nz := nz) (l := tk) (bytes := 48) (ts := [ss.length, 0]) (bs := []) (fl := 0) (tf := 0) (t := 1) rfl (by omega) (by omega) (by omega)
    have hwr1 := fun st => den_Write (pr := pr) hp (st := st) (own_c symC (nz := true) (l := tk) (t := 1) rfl) (by omega)
    rw [wrOut_ok hr1] at hwr1
    have hb1 := bsl_slc true (symFile ss) (lo := none) (hi := some (.d (.i .i64 (24 * (k : Int) + 24)))) (a := 0) (b := 24 * k + 24) (by simp [Bd]) rfl (by omega) (by omega)
    have htake : (symFile ss).take (24 * k + 24) = symFile tk := by rw [hpre, List.take_left' hfl]
    rw [List.drop_zero, htake] at hb1
    rw [hl1] at hcp1 hwr1
    by_cases c3 : more < 1
    · simp [F36_spindlelaw10_SymtabBegins, haw, fillV, reps, ofDs, hcp, hwr, hnum, c1, c2', hs1, hcp1, hwr1, hfl, hb1, c3]
    by_cases c4 : 23 < more
    · simp [F36_spindlelaw10_SymtabBegins, haw, fillV, reps, ofDs, hcp, hwr, hnum, c1, c2', hs1, hcp1, hwr1, hfl, hb1, c3, c4]
    by_cases c5 : (k : Int) = ss.length
    · have c5b : ((k : Int) = ss.length) = True := eq_true c5
      have c5c : (k = ss.length) = True := eq_true (by omega)
      simp [F36_spindlelaw10_SymtabBegins, haw, fillV, reps, ofDs, hcp, hwr, hnum, c1, c2', hs1, hcp1, hwr1, hfl, hb1, c3, c4, c5b, c5c]
    obtain ⟨m, rfl⟩ : ∃ m : Nat, more = m := ⟨more.toNat, by omega⟩
    have hk2 : k < ss.length := by omega
    have c3' : ¬ m < 1 := by omega
    have c4' : ¬ 23 < m := by omega
    have c5' : ¬ k = ss.length := by omega
    have w1 : IntKind.wrap .i64 (24 * (k : Int) + 24 + m) = 24 * (k : Int) + 24 + m := wrap_i64 (by omega) (by omega)
    have hb2 := bsl_slc true (symFile ss) (lo := none) (hi := some (.d (.i .i64 (24 * (k : Int) + 24 + m)))) (a := 0) (b := 24 * k + 24 + m) (by simp [Bd]) rfl (by omega) (by omega)
    rw [List.drop_zero] at hb2
    have hcb := fun st => den_copyBytes (pr := pr) hq (st := st) (nz := true) (L := (symFile ss).take (24 * k + 24 + m)) (by simp; omega)
    have hlen2 : (encs o1 (ss.drop k)).length = 24 * ss.length - 24 * k := by
      have := congrArg List.length hpre
      rw [List.length_append] at this
      omega
    have hpart : (symFile ss).take (24 * k + 24 + m) = List.replicate 24 0 ++ (encs o0 tk ++ (encs o1 (ss.drop k)).take m) := by
      rw [hpre, List.take_append, List.take_of_length_le (by omega), hfl, Nat.add_sub_cancel_left]
      unfold symFile
      rw [List.append_assoc]
    have hrd := fun st => den_Read (pr := pr) hp (st := st) (bsl_c true ((symFile ss).take (24 * k + 24 + m))) (by simp; omega)
    have hpl : ((encs o1 (ss.drop k)).take m).length = m := by simp; omega
    have hcut := read_cut hr1 hwf1 ((encs o1 (ss.drop k)).take m) (by omega) (by omega)
    rw [← hpart, hpl, hl1] at hcut
    rw [hcut, readOut_eq] at hrd
    generalize (symFile ss).take (24 * k + 24 + m) = L2 at *
    simp [F36_spindlelaw10_SymtabBegins, haw, fillV, reps, ofDs, hcp, hwr, hnum, c1, c2', hs1, hcp1, hwr1, hfl, hb1, c3, c4, c3', c4', c5, hb2, w1, hcb, hrd]
end
end Go.Sh
