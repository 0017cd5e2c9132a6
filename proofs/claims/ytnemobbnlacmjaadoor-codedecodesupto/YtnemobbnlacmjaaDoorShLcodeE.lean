/- The laws CodeBack and CodeForth on shadow runs. -/
import Derived.Test.YtnemobbnlacmjaaDoorShLcodeD
import Derived.Test.YtnemobbnlacmjaaDoorShFlaw3
import Derived.Test.YtnemobbnlacmjaaDoorShFlaw0
set_option linter.unusedVariables false
set_option linter.unusedSimpArgs false
namespace Go.Sh
def law3Fns : List (Nat × SFn) := [(12, F12_spindlelaw0_Num), (7, F7_spindlelaw0_CopyInsns), (9, F9_spindlelaw0_SameInsns), (35, F35_spindlelaw0_CopyBytes), (73, F73_spindlelaw0_SameBytes), (69, F69_spindlelaw3_awake), (71, F71_spindlelaw3_CodeBack), (74, F74_spindlelaw3_CodeForth)]
theorem ins_eq (x y : Ins) : eqV [9, 0, 0, 0, 0, 0] (.agg (ofDs x.cells)) (.agg (ofDs y.cells)) = some (decide (x = y)) := by
  obtain ⟨a, b, c, d, e⟩ := x
  obtain ⟨a', b', c', d', e'⟩ := y
  simp only [eqV, toDs_ofDs', Ins.cells, List.length_cons, List.length_nil, eqDs, eqK, Ins.mk.injEq]
  by_cases h1 : a = a' <;> by_cases h2 : b = b' <;> by_cases h3 : c = c' <;> by_cases h4 : d = d' <;> by_cases h5 : e = e' <;> simp [h1, h2, h3, h4, h5]
section
variable {pr : Prog} (hq : Sub law3Fns pr) {st : St}
include hq
theorem den_num3 (x : Int) : den pr 12 [.d (.i .i64 x)] st = some (.d (.i .i64 x), st) := den_shut (hq.at 0 rfl) rfl rfl (by simp; rfl) (by simp [F12_spindlelaw0_Num])
theorem den_copyIns {nz : Bool} {is : List Ins} (hl : is.length ≤ 3518437208883) : den pr 7 [dsl Ins.cells nz is] st = some (dsl Ins.cells true is, st) := by
  refine den_shut (hq.at 1 rfl) rfl rfl (by simp; rfl) ?_
  have hcp := appV_copy insC (nz := nz) (l := is) (bytes := 40) (ts := [0]) (bs := []) (fl := 0) (tf := 0) (t := 0) rfl (by omega) (by omega) (by omega)
  simp [F7_spindlelaw0_CopyInsns, fillV, reps, ofDs, hcp]
  rfl
theorem den_copyB {nz : Bool} {L : List UInt8} (hl : L.length ≤ 140737488355328) : den pr 35 [bsl nz L] st = some (bsl true L, st) := by
  refine den_shut (hq.at 3 rfl) rfl rfl (by simp; rfl) ?_
  simp [F35_spindlelaw0_CopyBytes, fillV, reps, ofDs, appV, byteCells_len, hl]
  rfl
theorem den_sameB {nz nz' : Bool} {L L' : List UInt8} : den pr 73 [bsl nz L, bsl nz' L'] st = some (.d (.b (decide (L = L'))), st) := by
  refine den_shut (hq.at 4 rfl) rfl rfl (by simp; rfl) ?_
  by_cases h : L = L' <;> simp [F73_spindlelaw0_SameBytes, h]
theorem den_sameIns {v w : V} {as bs : List Ins} (hv : SlC 5 v (as.map Ins.cells)) (hw : SlC 5 w (bs.map Ins.cells)) (ha : as.length ≤ 9223372036854775806) : den pr 9 [v, w] st = some (.d (.b (decide (as = bs))), st) := by
  obtain ⟨u, hc, hu⟩ := hv.close
  obtain ⟨u', hc', hu'⟩ := hw.close
  refine den_shut (hq.at 2 rfl) rfl rfl (by simp [hc, hc']; rfl) ?_
  have hl := hu.len
  have hl' := hu'.len
  rw [List.length_map] at hl hl'
  by_cases hne : as.length = bs.length
  rotate_left
  · have hne' : ¬ (as.length : Int) = bs.length := by omega
    have : as ≠ bs := fun e => hne (by rw [e])
    simp [F9_spindlelaw0_SameInsns, hl, hl', hne', this]
  simp [F9_spindlelaw0_SameInsns, hl, hl', hne]
  generalize hL : cden pr (.loop _ _ _) _ _ = o
  obtain ⟨r, rfl, hQ⟩ : ∃ r, o = some r ∧ ((as = bs ∧ ∃ e, r = (.exit 0, e, s0 [] [] 0 0)) ∨ (as ≠ bs ∧ ∃ e, r = (.ret, e, s0 [] [] 0 0) ∧ e.get 4 = some (.d (.b false)))) := by
    rw [← hL]
    obtain ⟨J, hJ⟩ : ∃ J : Nat → Env → St → Prop, J = (fun n e st => ∃ i : Nat, i ≤ as.length ∧ n = as.length - i ∧ as.take i = bs.take i ∧ st = s0 [] [] 0 0 ∧ e = [(0, u), (1, u'), (5, .d (.i .i64 i))]) := ⟨_, rfl⟩
    refine loop_j J ?_ (n := as.length) ?_
    rotate_left
    · rw [hJ]
      exact ⟨0, by omega, by omega, by simp, rfl, by simp⟩
    intro n e st hj
    rw [hJ] at hj
    obtain ⟨i, hi, rfl, htk, rfl, rfl⟩ := hj
    rcases Nat.lt_or_ge i as.length with h | h
    · obtain ⟨x, hx⟩ : ∃ x, as[i]? = some x := ⟨_, List.getElem?_eq_getElem h⟩
      obtain ⟨y, hy⟩ : ∃ y, bs[i]? = some y := ⟨_, List.getElem?_eq_getElem (by omega)⟩
      have h1 : IntKind.wrap .i64 ((i : Int) + 1) = i + 1 := wrap_i64 (by omega) (by omega)
      have hia := hu.iaddr (i := (i : Int)) (k := .i64) (by omega) (by simp; omega)
      have hld := fun st => hu.load (st := st) (i := i) (o := 0) (n := 5) (agg := true) (el := x.cells) (by simp [hx]) (by omega) (by omega)
      have hia' := hu'.iaddr (i := (i : Int)) (k := .i64) (by omega) (by simp; omega)
      have hld' := fun st => hu'.load (st := st) (i := i) (o := 0) (n := 5) (agg := true) (el := y.cells) (by simp [hy]) (by omega) (by omega)
      by_cases hxy : x = y
      · subst hxy
        simp [F9_spindlelaw0_SameInsns_b0, hl, h, hia, hld, hia', hld', ins_take, ins_eq, h1]
        refine ⟨as.length - (i + 1), by omega, ?_⟩
        rw [hJ]
        exact ⟨i + 1, by omega, rfl, by rw [List.take_add_one, List.take_add_one, htk, hx, hy], rfl, by simp⟩
      · have hab : as ≠ bs := by
          rintro rfl
          rw [hx] at hy
          exact hxy (Option.some.inj hy)
        simp [F9_spindlelaw0_SameInsns_b0, hl, h, hia, hld, hia', hld', ins_take, ins_eq, h1, hxy, hab]
    · have hab : as = bs := by
        rw [List.take_of_length_le (by omega), List.take_of_length_le (by omega)] at htk
        exact htk
      have : i = as.length := by omega
      simp [F9_spindlelaw0_SameInsns_b0, hl, this]
      exact hab
  rcases hQ with ⟨hab, e, rfl⟩ | ⟨hab, e, rfl, h4⟩
  · simp [hab]
  · simp [h4, hab]
end
theorem firstBad_at : ∀ {is : List Ins} {i : Nat}, firstBad is = some i → ∃ x, is[i]? = some x ∧ mayV x ≠ 0 ∧ ∀ y ∈ is.take i, mayV y = 0
  | [], i, h => by simp [firstBad] at h
  | x :: r, i, h => by
    unfold firstBad at h
    by_cases hx : mayV x = 0
    · simp only [hx, ne_eq, not_true_eq_false, if_false, Option.map_eq_some_iff] at h
      obtain ⟨j, hj, rfl⟩ := h
      obtain ⟨y, h1, h2, h3⟩ := firstBad_at hj
      refine ⟨y, by simpa using h1, h2, ?_⟩
      intro z hz
      simp only [List.take_succ_cons, List.mem_cons] at hz
      rcases hz with rfl | hz
      · exact hx
      · exact h3 z hz
    · simp [hx] at h
      subst h
      exact ⟨x, rfl, hx, by simp⟩
theorem enc149 : encOut [⟨149, 0, 0, 0, 0⟩] = .tup [.d (.sl 8 true [.i .u8 149, .i .u8 0, .i .u8 0, .i .u8 0, .i .u8 0, .i .u8 0, .i .u8 0, .i .u8 0]), .d (.i .i64 0), .d (.i .i64 0)] := by rfl
theorem dec149 : decOut (dcA [] 0 [149, 0, 0, 0, 0, 0, 0, 0]) = .tup [.d (.sl 1 true [.i .i64 149, .i .i64 0, .i .i64 0, .i .i64 0, .i .i64 0]), .d (.i .i64 0), .d (.i .i64 0)] := by
  have h := (dc_back (is := [⟨149, 0, 0, 0, 0⟩]) (by simp only [List.mem_singleton, forall_eq]; decide +kernel) (by simp only [List.mem_singleton, forall_eq]; exact ⟨by simp [okI], by simp [okI], by simp [okI], by simp [okI], by simp [okI]⟩)).1
  rw [show iencs [⟨149, 0, 0, 0, 0⟩] = [149, 0, 0, 0, 0, 0, 0, 0] by decide +kernel] at h
  rw [h]
  rfl
section
variable {pr : Prog} (hI : IsaOk pr) (hp : Sub codeFns pr) (hq : Sub law3Fns pr) {st : St}
include hI hp hq
theorem den_awake3 : den pr 69 [] st = some (.d (.b true), st) := by
  refine den_shut (hq.at 5 rfl) rfl rfl (by simp; rfl) ?_
  have h1 := fun st => den_Encode hI hp (st := st) (v := .d (.sl 1 true [.i .i64 149, .i .i64 0, .i .i64 0, .i .i64 0, .i .i64 0])) (is := [⟨149, 0, 0, 0, 0⟩]) (SlC.of_sl (map_sz insC _) rfl rfl) (by simp)
  have h2 := fun st => den_Decode hI hp (st := st) (v := .d (.sl 8 true [.i .u8 149, .i .u8 0, .i .u8 0, .i .u8 0, .i .u8 0, .i .u8 0, .i .u8 0, .i .u8 0])) (l := [149, 0, 0, 0, 0, 0, 0, 0]) (SlC.of_sl (byC_1 _) rfl rfl) (by simp) (by
    have := dcCnt_le [149, 0, 0, 0, 0, 0, 0, 0]
    simp at this
    omega)
  rw [enc149] at h1
  rw [dec149] at h2
  have hnum := fun x st => den_num3 (pr := pr) hq (st := st) x
  simp [F69_spindlelaw3_awake, fillV, lay, ofDs, reps, h1, h2, hnum, iaddrV, eqV, eqDs, eqK]
theorem law_CodeBack (nz : Bool) (is : List Ins) (hl : is.length ≤ 3518437208883) (hw : ∀ x ∈ is, x.wf) : den pr 71 [dsl Ins.cells nz is] st = some (.d (.b true), st) := by
  refine den_shut (hq.at 6 rfl) rfl rfl (by simp; rfl) ?_
  have hu := dsl_d insC nz is
  have hcp := fun st => den_copyIns hq (st := st) (nz := nz) hl
  have hen := fun st => den_Encode hI hp (st := st) (dsl_c insC true is) (by omega)
  have hnum := fun x st => den_num3 (pr := pr) hq (st := st) x
  have haw := fun st => den_awake3 hI hp hq (st := st)
  obtain ⟨b, k, e, hb⟩ : ∃ b k e, encOut is = .tup [b, .d (.i .i64 k), .d (.i .i64 e)] ∧ (match firstBad is with | some i => b = .d (.sl 0 false []) ∧ k = i ∧ e = mayV (is.getD i ⟨0, 0, 0, 0, 0⟩) | none => b = bsl true (iencs is) ∧ k = 0 ∧ e = 0) := by
    unfold encOut
    cases firstBad is <;> exact ⟨_, _, _, rfl, rfl, rfl, rfl⟩
  obtain ⟨hb, hcase⟩ := hb
  obtain ⟨N, hN⟩ : ∃ N, N = (firstBad is).getD is.length := ⟨_, rfl⟩
  have hbv : (∃ n z cs, b = .d (.sl n z cs)) := by
    cases hf : firstBad is with
    | none => rw [hf] at hcase; exact ⟨_, _, _, hcase.1⟩
    | some i => rw [hf] at hcase; exact ⟨_, _, _, hcase.1⟩
  obtain ⟨bn, bz, bcs, hbv⟩ := hbv
  have hNle : N ≤ is.length := by
    rw [hN]
    cases hf : firstBad is with
    | none => simp
    | some i =>
      obtain ⟨x, hx, _⟩ := firstBad_at hf
      have := (List.getElem?_eq_some_iff.1 hx).1
      simp
      omega
  have hNpre : ∀ i, i < N → ∃ x, is[i]? = some x ∧ mayV x = 0 := by
    intro i hi
    refine ⟨is[i]'(by omega), List.getElem?_eq_getElem (by omega), ?_⟩
    rw [hN] at hi
    cases hf : firstBad is with
    | none => exact firstBad_none.1 hf _ (List.getElem_mem _)
    | some j =>
      rw [hf] at hi
      obtain ⟨x, hx, _, h3⟩ := firstBad_at hf
      exact h3 _ (List.mem_take_iff_getElem.2 ⟨i, by simp at hi ⊢; omega, rfl⟩)
  rw [hb] at hen
  rw [hbv] at hen
  simp [F71_spindlelaw3_CodeBack, haw, hcp, hen]
  generalize hL : cden pr (.loop _ _ _) _ _ = o
  obtain ⟨r, rfl, hQ⟩ : ∃ r, o = some r ∧ ∃ ee, r = (.exit 0, ee, s0 [] [] 0 0) ∧ ee.get 0 = some (dsl Ins.cells nz is) ∧ ee.get 3 = some (.d (.sl bn bz bcs)) ∧ ee.get 4 = some (.d (.i .i64 k)) ∧ ee.get 5 = some (.d (.i .i64 e)) ∧ ee.get 6 = some (.d (.i .i64 N)) := by
    rw [← hL]
    refine loop_n N (fun i => [(0, dsl Ins.cells nz is), (3, .d (.sl bn bz bcs)), (4, .d (.i .i64 k)), (5, .d (.i .i64 e)), (6, .d (.i .i64 i))]) (fun _ => s0 [] [] 0 0) ?_ (by simp) (by simp)
    intro i hi
    have h1 : IntKind.wrap .i64 ((i : Int) + 1) = i + 1 := wrap_i64 (by omega) (by omega)
    rcases Nat.lt_or_ge i N with h | h
    · obtain ⟨x, hx, hmx⟩ := hNpre i h
      have hil : i < is.length := by omega
      have hia := hu.iaddr (i := (i : Int)) (k := .i64) (by omega) (by simp; omega)
      have hld := fun st => hu.load (st := st) (i := i) (o := 0) (n := 5) (agg := true) (el := x.cells) (by simp [hx]) (by omega) (by omega)
      have hm := fun st => den_may hI (st := st) x
      simp [F71_spindlelaw3_CodeBack_b0, hil, h, hia, hld, ins_take, hm, hmx, hnum, h1]
    · obtain rfl : N = i := by omega
      cases hf : firstBad is with
      | none =>
        have : N = is.length := by rw [hN, hf]; rfl
        simp [F71_spindlelaw3_CodeBack_b0, this]
      | some j =>
        obtain ⟨x, hx, hmx, _⟩ := firstBad_at hf
        have hNj : N = j := by rw [hN, hf]; rfl
        rw [← hNj] at hx
        have hil : N < is.length := (List.getElem?_eq_some_iff.1 hx).1
        have hia := hu.iaddr (i := (N : Int)) (k := .i64) (by omega) (by simp; omega)
        have hld := fun st => hu.load (st := st) (i := N) (o := 0) (n := 5) (agg := true) (el := x.cells) (by simp [hx]) (by omega) (by omega)
        have hm := fun st => den_may hI (st := st) x
        simp [F71_spindlelaw3_CodeBack_b0, hil, hia, hld, ins_take, hm, hmx, hnum, h1]
  obtain ⟨ee, rfl, g0, g3, g4, g5, g6⟩ := hQ
  cases hf : firstBad is with
  | some j =>
    rw [hf] at hcase
    obtain ⟨c1, c2, c3⟩ := hcase
    obtain ⟨x, hx, hmx, _⟩ := firstBad_at hf
    have hNj : N = j := by rw [hN, hf]; rfl
    rw [← hNj] at hx c2 c3
    have hil : N < is.length := (List.getElem?_eq_some_iff.1 hx).1
    have hia := hu.iaddr (i := (N : Int)) (k := .i64) (by omega) (by simp; omega)
    have hld := fun st => hu.load (st := st) (i := N) (o := 0) (n := 5) (agg := true) (el := x.cells) (by simp [hx]) (by omega) (by omega)
    have hm := fun st => den_may hI (st := st) x
    have hgd : is.getD N ⟨0, 0, 0, 0, 0⟩ = x := by simp [hx]
    rw [hgd] at c3
    rw [c1] at hbv
    cases hbv
    rw [c2] at g4
    rw [c3] at g5
    simp [g0, g3, g4, g5, g6, hil, hia, hld, ins_take, hm]
  | none =>
    rw [hf] at hcase
    obtain ⟨c1, c2, c3⟩ := hcase
    have hall := firstBad_none.1 hf
    have hNl : N = is.length := by rw [hN, hf]; rfl
    rw [← hbv, c1] at g3
    rw [c2] at g4
    rw [c3] at g5
    rw [hNl] at g6
    have hsl := slotsOf_le is
    have hlen := iencs_len is
    obtain ⟨d1, d2⟩ := dc_back hall hw
    have hde := fun st => den_Decode hI hp (st := st) (bsl_c true (iencs is)) (by omega) (by omega)
    rw [d1] at hde
    have hslots := fun st => den_slots (pr := pr) hp (st := st) (dsl_c insC true is) (by omega)
    have hm8 : IntKind.wrap .i64 (8 * (slotsOf is : Int)) = 8 * slotsOf is := wrap_i64 (by omega) (by omega)
    have hsame := fun z st => den_sameIns hq (st := st) (dsl_c insC z is) (dsl_c insC nz is) (by omega)
    have hdo : decOut (is, 0, 0) = .tup [dsl Ins.cells (decide (0 < is.length)) is, .d (.i .i64 0), .d (.i .i64 0)] := rfl
    rw [hdo] at hde
    have hlz : ((iencs is).length : Int) = 8 * slotsOf is := by omega
    simp [g0, g3, g4, g5, g6, hnum, hcp, hslots, hm8, hlz, hde, hsame]
end
end Go.Sh
