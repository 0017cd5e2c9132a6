/- The law CodeJoins on shadow runs. -/
import Derived.Test.YtbjckcenlfgcaabDoorShLcodeF
set_option linter.unusedVariables false
set_option linter.unusedSimpArgs false
namespace Go.Sh
def joinFns : List (Nat × SFn) := [(80, F80_spindlelaw0_CopyInsns_own), (81, F81_spindlelaw0_CopyBytes_own), (75, F75_spindlelaw3_CodeJoins)]
theorem appV_dsl {α : Type} {c : α → List D} {sz : Nat} (h : ∀ x, (c x).length = sz) {nz nz' : Bool} {l l' : List α} {bytes n t : Nat} {ts : List Nat} {bs : List Blk} {fl tf : Nat} (hn : n = l.length) (ht : ts[t]? = some n) (htf : tf ≤ t) (hb : (n + l'.length) * bytes ≤ 140737488355328) (hl : n + l'.length ≤ 140737488355328) :
    appV sz bytes (s0 bs ts fl tf) (.own sz n nz (l.map c).flatten t) (dsl c nz' l') = some (.own sz (n + l'.length) (nz || decide (0 < n + l'.length)) ((l ++ l').map c).flatten t, s0 bs (ts.set t (n + l'.length)) fl tf) := by
  unfold appV
  rw [dsl_vw]
  subst hn
  simp only [map_flat_len h]
  rw [if_pos ⟨trivial, htf, ht, trivial, hb, hl, trivial⟩]
  simp only [List.map_append, List.flatten_append]
  rfl
theorem appV_bsl {nz nz' : Bool} {l l' : List UInt8} {n t : Nat} {ts : List Nat} {bs : List Blk} {fl tf : Nat} (hn : n = l.length) (ht : ts[t]? = some n) (htf : tf ≤ t) (hl : n + l'.length ≤ 140737488355328) :
    appV 1 1 (s0 bs ts fl tf) (.own 1 n nz (byteCells l) t) (bsl nz' l') = some (.own 1 (n + l'.length) (nz || decide (0 < n + l'.length)) (byteCells (l ++ l')) t, s0 bs (ts.set t (n + l'.length)) fl tf) := by
  unfold appV
  rw [bsl_vw]
  subst hn
  simp only [byteCells_len]
  rw [if_pos ⟨trivial, htf, ht, by omega, by omega, hl, by omega⟩]
  simp only [byteCells_app]
  rfl
theorem own_bsl (n : Nat) (nz : Bool) (l : List UInt8) (t : Nat) (hn : n = l.length) : close1 (.own 1 n nz (byteCells l) t) = some (bsl nz l) := by
  subst hn
  rfl
section
variable {pr : Prog} (hj : Sub joinFns pr)
include hj
theorem den_copyInsO {nz : Bool} {is : List Ins} {bs : List Blk} {ts : List Nat} {fl : Nat} (hl : is.length ≤ 3518437208883) : den pr 80 [dsl Ins.cells nz is] (s0 bs ts fl 0) = some (.own 5 is.length true (is.map Ins.cells).flatten ts.length, s0 bs (ts ++ [is.length]) fl 0) := by
  rw [den_fn (hj.at 0 rfl) rfl rfl, start_raw _ rfl]
  have hcp := appV_copy insC (nz := nz) (l := is) (bytes := 40) (ts := ts ++ [0]) (bs := bs) (fl := fl) (tf := 0) (t := ts.length) (by simp) (by omega) (by omega) (by omega)
  simp [F80_spindlelaw0_CopyInsns_own, fillV, reps, ofDs, hcp]
theorem den_copyBO {nz : Bool} {L : List UInt8} {bs : List Blk} {ts : List Nat} {fl : Nat} (hl : L.length ≤ 140737488355328) : den pr 81 [bsl nz L] (s0 bs ts fl 0) = some (.own 1 L.length true (byteCells L) ts.length, s0 bs (ts ++ [L.length]) fl 0) := by
  rw [den_fn (hj.at 1 rfl) rfl rfl, start_raw _ rfl]
  have hcp := appV_bsl (nz := true) (nz' := nz) (l := []) (l' := L) (n := 0) (t := ts.length) (ts := ts ++ [0]) (bs := bs) (fl := fl) (tf := 0) rfl (by simp) (by omega) (by omega)
  simp only [byteCells, List.map_nil, List.nil_append, Nat.zero_add, Bool.true_or] at hcp
  simp [F81_spindlelaw0_CopyBytes_own, fillV, reps, ofDs, hcp]
  rfl
end
theorem firstBad_app : ∀ (a c : List Ins), firstBad (a ++ c) = match firstBad a with
    | some i => some i
    | none => (firstBad c).map (a.length + ·)
  | [], c => by
    simp only [List.nil_append, firstBad, List.length_nil]
    cases firstBad c <;> simp
  | x :: a, c => by
    simp only [List.cons_append, firstBad, firstBad_app a c, List.length_cons]
    by_cases h : mayV x = 0
    · simp only [h, ne_eq, not_true_eq_false, if_false]
      cases firstBad a with
      | some i => rfl
      | none =>
        cases firstBad c with
        | none => rfl
        | some j =>
          simp
          omega
    · simp [h]
/-- What is told of a list that may not be. -/
theorem encOut_bad {is : List Ins} {i : Nat} (h : firstBad is = some i) : ∃ x, is[i]? = some x ∧ mayV x ≠ 0 ∧ encOut is = .tup [.d (.sl 0 false []), .d (.i .i64 i), .d (.i .i64 (mayV x))] := by
  obtain ⟨x, hx, hm, _⟩ := firstBad_at h
  refine ⟨x, hx, hm, ?_⟩
  unfold encOut
  rw [h]
  simp [hx]
theorem encOut_ok {is : List Ins} (h : firstBad is = none) : encOut is = .tup [bsl true (iencs is), .d (.i .i64 0), .d (.i .i64 0)] := by
  unfold encOut
  rw [h]
section
variable {pr : Prog} (hI : IsaOk pr) (hp : Sub codeFns pr) (hq : Sub law3Fns pr) (hj : Sub joinFns pr) {st : St}
include hI hp hq hj
theorem law_CodeJoins (nz nz' : Bool) (a c : List Ins) (rest : Int) (ha : a.length ≤ 1048576) (hc : c.length ≤ 1048576) (hwa : ∀ x ∈ a, x.wf) (hwc : ∀ x ∈ c, x.wf) : den pr 75 [dsl Ins.cells nz a, dsl Ins.cells nz' c, .d (.i .i64 rest)] st = some (.d (.b true), st) := by
  refine den_shut (hj.at 2 rfl) rfl rfl (by simp; rfl) ?_
  have haw := fun st => den_awake3 hI hp hq (st := st)
  have hnum := fun x st => den_num3 (pr := pr) hq (st := st) x
  have ca := fun bs ts fl => den_copyInsO hj (nz := nz) (is := a) (bs := bs) (ts := ts) (fl := fl) (by omega)
  have cc := fun bs ts fl => den_copyInsO hj (nz := nz') (is := c) (bs := bs) (ts := ts) (fl := fl) (by omega)
  have ea := fun t st => den_Encode hI hp (st := st) (own_c insC (nz := true) (l := a) (t := t) rfl) (by omega)
  have ec := fun t st => den_Encode hI hp (st := st) (own_c insC (nz := true) (l := c) (t := t) rfl) (by omega)
  have eac := fun t st => den_Encode hI hp (st := st) (own_c insC (nz := true) (l := a ++ c) (n := a.length + c.length) (t := t) (by simp)) (by simp; omega)
  have app := fun t ts bs h => appV_dsl insC (nz := true) (nz' := nz') (l := a) (l' := c) (bytes := 40) (n := a.length) (t := t) (ts := ts) (bs := bs) (fl := 0) (tf := 0) rfl h (by omega) (by omega) (by omega)
  have hfb := firstBad_app a c
  simp only [Bool.true_or] at app
  obtain ⟨G, hG⟩ : ∃ G, G = ((a ++ c).map Ins.cells).flatten := ⟨_, rfl⟩
  rw [← hG] at app eac
  cases h1 : firstBad a with
  | some i =>
    rw [h1] at hfb
    obtain ⟨x, hx, hm, hea⟩ := encOut_bad h1
    obtain ⟨x', hx', hm', heac⟩ := encOut_bad hfb
    have hil := (List.getElem?_eq_some_iff.1 hx).1
    rw [List.getElem?_append_left hil, hx] at hx'
    obtain rfl := Option.some.inj hx'
    rw [hea] at ea
    rw [heac] at eac
    obtain ⟨y, k, f, hec⟩ : ∃ n z cs, ∃ k f : Int, encOut c = .tup [.d (.sl n z cs), .d (.i .i64 k), .d (.i .i64 f)] := by
      unfold encOut
      cases firstBad c <;> exact ⟨_, _, _, _, _, rfl⟩
    obtain ⟨cs, k, hec⟩ := hec
    rw [hec] at ec
    simp [F75_spindlelaw3_CodeJoins, haw, ca, cc, ea, ec, app, eac, hnum, hm]
  | none =>
    rw [h1] at hfb
    have hea := encOut_ok h1
    rw [hea] at ea
    cases h2 : firstBad c with
    | some j =>
      rw [h2] at hfb
      simp only [Option.map_some] at hfb
      obtain ⟨x, hx, hm, hec⟩ := encOut_bad h2
      obtain ⟨x', hx', hm', heac⟩ := encOut_bad hfb
      rw [List.getElem?_append_right (by omega), Nat.add_sub_cancel_left, hx] at hx'
      obtain rfl := Option.some.inj hx'
      rw [hec] at ec
      rw [heac] at eac
      have hge : (a.length : Int) ≤ a.length + j := by omega
      simp [F75_spindlelaw3_CodeJoins, haw, ca, cc, ea, ec, app, eac, hnum, hm, hge]
    | none =>
      rw [h2] at hfb
      simp only [Option.map_none] at hfb
      have hec := encOut_ok h2
      have heac := encOut_ok hfb
      rw [hec] at ec
      rw [heac] at eac
      have hm := firstBad_none.1 hfb
      have hw : ∀ x ∈ a ++ c, x.wf := fun x hx => (List.mem_append.1 hx).elim (hwa x) (hwc x)
      obtain ⟨X, hX⟩ : ∃ X, X = iencs a := ⟨_, rfl⟩
      obtain ⟨Y, hY⟩ : ∃ Y, Y = iencs c := ⟨_, rfl⟩
      have hXl : X.length ≤ 16777216 := by
        have := iencs_len a
        have := slotsOf_le a
        rw [hX]
        omega
      have hYl : Y.length ≤ 16777216 := by
        have := iencs_len c
        have := slotsOf_le c
        rw [hY]
        omega
      have hXY : iencs (a ++ c) = X ++ Y := by rw [hX, hY, iencs_app]
      have hlen : (X ++ Y).length = 8 * slotsOf (a ++ c) := by rw [← hXY, iencs_len]
      obtain ⟨d1, d2⟩ := dc_back hm hw
      obtain ⟨W, hW⟩ : ∃ W, W = X ++ Y := ⟨_, rfl⟩
      have hWl : X.length + Y.length = W.length := by rw [hW, List.length_append]
      rw [← hW] at hXY hlen
      rw [hXY] at eac d1 d2
      rw [← hX] at ea
      rw [← hY] at ec
      have hWb : W.length ≤ 33554432 := by omega
      have hown : ∀ (L : List UInt8) (n t : Nat), n = L.length → SlC 1 (.own 1 n true (byteCells L) t) (L.map byC) := fun L n t hn => SlC.of_own (byC_1 L) (by simp [hn]) (byC_flat L).symm
      have cX := fun bs ts fl => den_copyBO hj (nz := true) (L := X) (bs := bs) (ts := ts) (fl := fl) (by omega)
      have cW := fun z bs ts fl => den_copyBO hj (nz := z) (L := W) (bs := bs) (ts := ts) (fl := fl) (by omega)
      have cWo : ∀ t' bs ts fl, den pr 81 [.own 1 W.length true (byteCells W) t'] (s0 bs ts fl 0) = some (.own 1 W.length true (byteCells W) ts.length, s0 bs (ts ++ [W.length]) fl 0) := by
        intro t' bs ts fl
        rw [den_fn (hj.at 1 rfl) rfl rfl, start_raw _ rfl]
        have hcp : appV 1 1 (s0 bs (ts ++ [0]) fl 0) (.own 1 0 true [] ts.length) (.own 1 W.length true (byteCells W) t') = some (.own 1 W.length true (byteCells W) ts.length, s0 bs (ts ++ [W.length]) fl 0) := by
          have hb : W.length ≤ 140737488355328 := by omega
          simp [appV, vw, byteCells_len, hb]
        simp [F81_spindlelaw0_CopyBytes_own, fillV, reps, ofDs, hcp]
      have dW := fun t st => den_Decode hI hp (st := st) (hown W W.length t rfl) (by omega) (by rw [d2]; simp; omega)
      rw [d1] at dW
      have hdo : decOut (a ++ c, 0, 0) = .tup [dsl Ins.cells (decide (0 < (a ++ c).length)) (a ++ c), .d (.i .i64 0), .d (.i .i64 0)] := rfl
      rw [hdo] at dW
      have apB := fun t ts bs h => appV_bsl (nz := true) (nz' := true) (l := X) (l' := Y) (n := X.length) (t := t) (ts := ts) (bs := bs) (fl := 0) (tf := 0) rfl h (by omega) (by omega)
      simp only [Bool.true_or] at apB
      rw [← hW, hWl] at apB
      obtain ⟨n, hn, hand⟩ := and_16 rest
      obtain ⟨r, hr⟩ : ∃ r : Nat, r = n % 7 := ⟨_, rfl⟩
      have hr7 : r < 7 := by omega
      have tm : (n : Int).tmod 7 = r := by rw [show (7 : Int) = ((7 : Nat) : Int) from rfl, tmod_nat, hr]
      have w1 : IntKind.wrap .i64 (1 + (r : Int)) = ((r + 1 : Nat) : Int) := by rw [wrap_i64 (by omega) (by omega)]; omega
      obtain ⟨Z, hZ⟩ : ∃ Z, Z = List.replicate (r + 1) (0 : UInt8) := ⟨_, rfl⟩
      have hZl : Z.length = r + 1 := by rw [hZ]; simp
      have hreps : reps (r + 1) [D.i .u8 0] = byteCells Z := by rw [hZ]; simp [reps, byteCells]
      obtain ⟨R, hR⟩ : ∃ R : Int, R = ((r + 1 : Nat) : Int) := ⟨_, rfl⟩
      rw [← hR] at w1
      obtain ⟨V2, hV2⟩ : ∃ V2, V2 = W ++ Z := ⟨_, rfl⟩
      have hV2l : V2.length = W.length + (r + 1) := by rw [hV2, List.length_append, hZl]
      have apZ : ∀ t ts bs, ts[t]? = some W.length → appZV 1 1 [.i .u8 0] (s0 bs ts 0 0) (.own 1 W.length true (byteCells W) t) (.d (.i .i64 R)) = some (.own 1 V2.length true (byteCells V2) t, s0 bs (ts.set t V2.length) 0 0) := by
        intro t ts bs h
        have hz := appV_bsl (nz := true) (nz' := true) (l := W) (l' := Z) (n := W.length) (t := t) (ts := ts) (bs := bs) (fl := 0) (tf := 0) rfl h (by omega) (by omega)
        simp only [Bool.true_or] at hz
        rw [hZl, ← hV2, ← hV2l] at hz
        simp only [appZV]
        rw [if_pos (by omega), hR, Int.toNat_natCast, hreps]
        rw [bsl, hZl] at hz
        exact hz
      have hst : dcA [] 0 V2 = ([], ((slotsOf (a ++ c) : Nat) : Int), 30) := by
        have hne : Z ≠ [] := by
          intro h
          rw [h] at hZl
          simp at hZl
        have h30 : (firstOf Z).2.2 = 30 := by
          unfold firstOf
          rw [if_pos (by omega)]
        have := dc_stop hm hw hne (by omega)
        rw [hXY, h30, ← hV2] at this
        exact this
      have dV := fun t st => den_Decode hI hp (st := st) (hown V2 V2.length t rfl) (by omega) (by
        have := dcCnt_le V2
        omega)
      have hdo2 : decOut ([], ((slotsOf (a ++ c) : Nat) : Int), 30) = .tup [.d (.sl 0 false []), .d (.i .i64 (slotsOf (a ++ c) : Nat)), .d (.i .i64 30)] := rfl
      rw [hst, hdo2] at dV
      have sW : ∀ t st, den pr 73 [bsl true W, .own 1 W.length true (byteCells W) t] st = some (.d (.b true), st) := by
        intro t st
        refine den_shut (hq.at 4 rfl) rfl rfl (by simp; rfl) ?_
        have e1 : V.d (.sl W.length true (byteCells W)) = bsl true W := rfl
        rw [e1]
        simp [F73_spindlelaw0_SameBytes]
      have sI := fun z t st => den_sameIns hq (st := st) (dsl_c insC z (a ++ c)) (own_c insC (nz := true) (l := a ++ c) (n := a.length + c.length) (t := t) (by simp)) (by simp; omega)
      rw [← hG] at sI
      obtain ⟨SL, hSL⟩ : ∃ SL, SL = slotsOf (a ++ c) := ⟨_, rfl⟩
      rw [← hSL] at hlen dV
      have hquo : ((W.length : Int).tdiv 8) = SL := by
        rw [hlen, Int.tdiv_eq_ediv_of_nonneg (by omega)]
        omega
      have hqw : IntKind.wrap .i64 (SL : Int) = SL := wrap_i64 (by omega) (by omega)
      obtain ⟨AC, hAC⟩ : ∃ AC, AC = a ++ c := ⟨_, rfl⟩
      rw [← hAC] at dW
      obtain ⟨zz, hzz⟩ : ∃ zz, zz = decide (0 < AC.length) := ⟨_, rfl⟩
      rw [← hzz] at dW
      have sI : ∀ t st, den pr 9 [dsl Ins.cells zz AC, .own 5 (a.length + c.length) true G t] st = some (.d (.b true), st) := by
        intro t st
        rw [hAC]
        have := sI zz t st
        rwa [decide_eq_true rfl] at this
      simp [F75_spindlelaw3_CodeJoins, haw, ca, cc, ea, ec, app, eac, hnum, cX, cWo, dW, apB, hand, arI, tm, w1, apZ, dV, sW, sI, hquo, hqw]
end
end Go.Sh
