/- The law IsaInfo on shadow runs. -/
import Derived.Test.YtgafhgbnjohbeaaDoorShL2
set_option linter.unusedVariables false
set_option linter.unusedSimpArgs false
namespace Go.Sh
open Go.Proofs.YtgafhgbnjohbeaaDoor.isaInfo
def ic (x : Int) : List D := [.i .i64 x]
def opsI : List (List D) := opsL.map fun n : Nat => ic n
theorem opsI_flat : opsI.flatten = opsD := by
  simp only [opsI, opsD, ic]
  induction opsL with
  | nil => rfl
  | cons x r ih => simp [ih]
theorem opsI_slv (s : St) (nz : Bool) : SlV 1 (.d (.sl 119 nz opsD)) s opsI := ⟨by intro x hx; simp only [opsI, List.mem_map] at hx; obtain ⟨y, _, rfl⟩ := hx; rfl, by simp [opsI, opsL_len], opsI_flat.symm⟩
theorem ofDs6 {a b : List D} (h : useOk a b) : (ofDs a).length = 6 ∧ (ofDs b).length = 6 := by
  obtain ⟨a1, a2, a3, a4, a5, a6, b1, b2, b3, b4, b5, b6, rfl, rfl, _⟩ := h
  exact ⟨rfl, rfl⟩
theorem lay_all {α : Type} {cs xs : List α} (h : xs.length = cs.length) : lay cs 0 xs = xs := by
  simp [lay, h]
def z6 : List D := [.i .i64 0, .i .i64 0, .b false, .b false, .b false, .b false]
theorem lay6 {a : List D} (h : (ofDs a).length = 6) : lay (ofDs [.i .i64 0, .i .i64 0, .b false, .b false, .b false, .b false]) 0 (ofDs a) = ofDs a := lay_all (by rw [h]; rfl)
theorem z6_len : (ofDs [.i .i64 0, .i .i64 0, .b false, .b false, .b false, .b false]).length = 6 := rfl
/-- The first loop. -/
theorem loop1 (st : St) (xs : List Int) (nz : Bool) (hl : xs.length ≤ 1152921504606846976) {Q : Out → Prop} (hQ : ∀ e, Q (.exit 0, e, st)) :
    ∀ (e : Env), mask [0, 3] e = [(0, .d (.sl xs.length nz (xs.map ic).flatten)), (3, .d (.i .i64 0))] → CodeW pr (.loop [0, 3] true F13_spindlelaw2_IsaInfo_b0) e st Q := by
  intro e he
  have hsl : ∀ s : St, SlV 1 (.d (.sl xs.length nz (xs.map ic).flatten)) s (xs.map ic) := fun s => ⟨by intro x hx; simp only [List.mem_map] at hx; obtain ⟨y, _, rfl⟩ := hx; rfl, by simp, rfl⟩
  refine CodeW.loop (fun n e s => s = st ∧ ∃ i : Nat, i ≤ xs.length ∧ n = xs.length - i ∧ mask [0, 3] e = [(0, .d (.sl xs.length nz (xs.map ic).flatten)), (3, .d (.i .i64 i))]) ?_ (n := xs.length) ⟨rfl, 0, by omega, rfl, he⟩
  rintro n e s ⟨rfl, i, hi, rfl, hm⟩
  rw [hm]
  obtain ⟨s1, hs1, k1, k2, k3, k4⟩ := enter_facts s
  rw [hs1]
  obtain ⟨P0, hP0⟩ : ∃ P0 : Out → Prop, P0 = fun r => Round (fun n e s' => s' = s ∧ ∃ i : Nat, i ≤ xs.length ∧ n = xs.length - i ∧ mask [0, 3] e = [(0, .d (.sl xs.length nz (xs.map ic).flatten)), (3, .d (.i .i64 i))]) (xs.length - i) Q (cutR s true r) := ⟨_, rfl⟩
  rw [← hP0]
  simp only [F13_spindlelaw2_IsaInfo_b0]
  rcases Nat.lt_or_ge i xs.length with hlt | hge
  · obtain ⟨x, hx⟩ : ∃ x, xs[i]? = some x := ⟨_, List.getElem?_eq_getElem hlt⟩
    obtain ⟨p, hp, hpe⟩ := (hsl s1).at (i := i) (el := ic x) (by simp [hx]) .i64
    have hld := hpe.load1
    have hw : IntKind.wrap .i64 ((i : Int) + 1) = ((i + 1 : Nat) : Int) := by rw [wrap_i64 (by omega) (by omega)]; omega
    obtain ⟨a, b, ee, hab, hr, hi', _⟩ := info_w x
    obtain ⟨ha6, hb6⟩ := ofDs6 hab
    have hueq := use_eq hab
    refine CodeW.seq (CodeW.of_ex ?_)
    simp [hlt, Seq]
    obtain ⟨P1, hP1⟩ : ∃ P1 : Out → Prop, P1 = fun r => ∃ e1 s2, r = (.normal, e1, s2) ∧ s2.tips = s1.tips ∧ e1.get 0 = some (.d (.sl xs.length nz (xs.map ic).flatten)) ∧ e1.get 3 = some (.d (.i .i64 i)) := ⟨_, rfl⟩
    refine CodeW.seq (CodeW.mono (Q := P1) ?_ ?_)
    · refine CodeW.block ?_
      refine CodeW.seq (CodeW.region ?_)
      simp [OpsW, OpW, Seq, hp, hld]
      refine hr _ _ ?_
      simp [Seq, ha6, lay6 ha6, z6_len, k1, k3]
      obtain ⟨p2, hp2, hpe2⟩ := (hsl (s1.push (.row (ofDs a)))).at (i := i) (el := ic x) (by simp [hx]) .i64
      obtain rfl : p = p2 := by rw [hp] at hp2; exact Option.some.inj hp2
      have hld2 := hpe2.load1
      refine CodeW.seq (CodeW.region ?_)
      simp [OpsW, OpW, Seq, hp, hld2]
      refine hi' _ _ ?_
      simp [Seq, hb6, lay6 hb6, z6_len, k1, k3]
      refine CodeW.of_ex ?_
      have ta : List.take 6 (ofDs a) = ofDs a := List.take_of_length_le (by omega)
      have tb : List.take 6 (ofDs b) = ofDs b := List.take_of_length_le (by omega)
      simp [k1, k3, ha6, hb6, ta, tb, hueq, num_den, InBlock]
      rw [hP1]
      exact ⟨_, _, rfl, by simp, by simp, by simp⟩
    · intro r hr1
      rw [hP1] at hr1
      obtain ⟨e1, s2, rfl, ht, h10, h13⟩ := hr1
      simp only [Seq]
      refine CodeW.of_ex ?_
      simp [h13, hw]
      rw [hP0]
      simp only [Round, cutR, if_true]
      refine ⟨xs.length - (i + 1), by omega, ?_, i + 1, by omega, rfl, ?_⟩
      · rw [ht, k2]
        simp
      · simp [h10]
  · refine CodeW.seq (CodeW.of_ex ?_)
    have hf : ¬ ((i : Int) < (xs.length : Int)) := by omega
    simp [hf, Seq]
    rw [hP0]
    simp only [Round, cutR, if_true]
    have : ({ heap := s.heap, tips := s1.tips.take s.tips.length, floor := s.floor, tfloor := s.tfloor } : St) = s := by
      rw [k2]
      simp
    rw [this]
    exact hQ _
theorem same_run : runIs pr 200 16 [.sl 119 true opsD, .sl 119 true opsD] (.b true) = true := by kernel_rfl
/-- The second loop. -/
theorem loop2 (st : St) {Q : Out → Prop} (hQ : ∀ e, e.get 8 = some (.d (.sl 119 true opsD)) → e.get 9 = some (.d (.i .i64 119)) → Q (.exit 2, e, st)) :
    ∀ (e : Env), mask [8, 9, 10] e = [(8, .d (.sl 119 true opsD)), (9, .d (.i .i64 0)), (10, .d (.i .i64 0))] → CodeW pr (.loop [8, 9, 10] true F13_spindlelaw2_IsaInfo_b1) e st Q := by
  intro e he
  have h0 : atOf 0 = 0 := by kernel_rfl
  refine CodeW.loop (fun n e s => s = st ∧ ∃ op : Nat, op ≤ 256 ∧ n = 256 - op ∧ mask [8, 9, 10] e = [(8, .d (.sl 119 true opsD)), (9, .d (.i .i64 (atOf op : Nat))), (10, .d (.i .i64 op))]) ?_ (n := 256) ⟨rfl, 0, by omega, rfl, by rw [he, h0]; rfl⟩
  rintro n e s ⟨rfl, op, ho, rfl, hm⟩
  rw [hm]
  obtain ⟨s1, hs1, k1, k2, k3, k4⟩ := enter_facts s
  rw [hs1]
  obtain ⟨P0, hP0⟩ : ∃ P0 : Out → Prop, P0 = fun r => Round (fun n e s' => s' = s ∧ ∃ op : Nat, op ≤ 256 ∧ n = 256 - op ∧ mask [8, 9, 10] e = [(8, .d (.sl 119 true opsD)), (9, .d (.i .i64 (atOf op : Nat))), (10, .d (.i .i64 op))]) (256 - op) Q (cutR s true r) := ⟨_, rfl⟩
  rw [← hP0]
  have hback : ({ heap := s.heap, tips := s1.tips.take s.tips.length, floor := s.floor, tfloor := s.tfloor } : St) = s := by
    rw [k2]
    simp
  simp only [F13_spindlelaw2_IsaInfo_b1]
  rcases Nat.lt_or_ge op 256 with hlt | hge
  · have hlt' : (op : Int) < 256 := by omega
    have hw : IntKind.wrap .i64 ((op : Int) + 1) = ((op + 1 : Nat) : Int) := by rw [wrap_i64 (by omega) (by omega)]; omega
    obtain ⟨a, b, ee, hab, _, hi', hval⟩ := info_w op
    have hval := hval op rfl hlt
    obtain ⟨ha6, hb6⟩ := ofDs6 hab
    obtain ⟨st1, st2⟩ := at_step hlt
    refine CodeW.seq (CodeW.of_ex ?_)
    simp [hlt', Seq]
    obtain ⟨P1, hP1⟩ : ∃ P1 : Out → Prop, P1 = fun r => ∃ e1 s2, r = (.normal, e1, s2) ∧ s2.tips = s1.tips ∧ e1.get 8 = some (.d (.sl 119 true opsD)) ∧ e1.get 9 = some (.d (.i .i64 (atOf (op + 1) : Nat))) ∧ e1.get 10 = some (.d (.i .i64 op)) := ⟨_, rfl⟩
    refine CodeW.seq (CodeW.mono (Q := P1) ?_ ?_)
    · refine CodeW.block ?_
      refine CodeW.seq (CodeW.region ?_)
      simp [OpsW, OpW, Seq]
      refine hi' _ _ ?_
      simp [Seq, hb6, lay6 hb6, z6_len, k1, k3]
      by_cases h0 : ee = 0
      · obtain ⟨g1, g2⟩ := st1 (hval.1 h0)
        have hat : atOf op < 119 := by
          have := (List.getElem?_eq_some_iff.1 g1).1
          rwa [opsL_len] at this
        obtain ⟨p, hp, hpe⟩ := (opsI_slv (s1.push (.row (ofDs b))) true).at (i := atOf op) (el := ic op) (by simp [opsI, g1]) .i64
        have hld := hpe.load1
        have hwa : IntKind.wrap .i64 ((atOf op : Int) + 1) = ((atOf (op + 1) : Nat) : Int) := by rw [g2, wrap_i64 (by omega) (by omega)]; omega
        have hlt2 : ¬ ((119 : Int) ≤ (atOf op : Nat)) := by omega
        refine CodeW.of_ex ?_
        simp [h0, hp, hld, hwa, hlt2, InBlock]
        rw [hP1]
        exact ⟨_, _, rfl, by simp, by simp, by simp, by simp⟩
      · have g2 := st2 (fun hh => h0 (hval.2 hh))
        refine CodeW.of_ex ?_
        simp [h0, InBlock]
        rw [hP1]
        exact ⟨_, _, rfl, by simp, by simp, by simp [g2], by simp⟩
    · intro r hr1
      rw [hP1] at hr1
      obtain ⟨e1, s2, rfl, ht, h18, h19, h110⟩ := hr1
      simp only [Seq]
      refine CodeW.of_ex ?_
      simp [h110, hw]
      rw [hP0]
      simp only [Round, cutR, if_true]
      refine ⟨256 - (op + 1), by omega, ?_, op + 1, by omega, rfl, ?_⟩
      · rw [ht]
        exact hback
      · simp [h18, h19]
  · obtain rfl : op = 256 := by omega
    refine CodeW.seq (CodeW.of_ex ?_)
    simp [Seq]
    rw [hP0]
    simp only [Round, cutR, if_true]
    rw [hback]
    refine hQ _ (by simp) (by simp [at_256])
theorem law_w (st : St) (xs : List Int) (nz : Bool) (hl : xs.length ≤ 1152921504606846976) : CallW pr 13 [.d (.sl xs.length nz (xs.map ic).flatten)] st (fun r _ => r = .d (.b true)) := by
  refine CallW.of_body (fn := F13_spindlelaw2_IsaInfo) rfl rfl ?_
  obtain ⟨s, hs, g1, g2, g3, g4⟩ := start_facts F13_spindlelaw2_IsaInfo rfl st
  rw [hs]
  refine CodeW.seq (CodeW.of_ex ?_)
  simp [Seq]
  obtain ⟨P1, hP1⟩ : ∃ P1 : Out → Prop, P1 = fun r => ∃ e1, r = (.normal, e1, s) := ⟨_, rfl⟩
  refine CodeW.seq (CodeW.mono (Q := P1) ?_ ?_)
  · refine CodeW.seq (CodeW.of_ex ?_)
    simp [Seq]
    refine CodeW.block ?_
    refine loop1 s xs nz hl (fun e => ?_) _ (by simp)
    simp [InBlock]
    rw [hP1]
    exact ⟨_, rfl⟩
  · intro r hr
    rw [hP1] at hr
    obtain ⟨e1, rfl⟩ := hr
    simp only [Seq]
    refine CodeW.seq (CodeW.region ?_)
    simp [OpsW, OpW, Seq]
    refine CallW.of_runIs (xs := []) ops_run ?_
    refine CodeW.seq (CodeW.of_ex ?_)
    simp [Seq]
    obtain ⟨P2, hP2⟩ : ∃ P2 : Out → Prop, P2 = fun r => ∃ e2, r = (.normal, e2, s) ∧ e2.get 8 = some (.d (.sl 119 true opsD)) ∧ e2.get 9 = some (.d (.i .i64 119)) := ⟨_, rfl⟩
    refine CodeW.seq (CodeW.mono (Q := P2) ?_ ?_)
    · refine CodeW.seq (CodeW.of_ex ?_)
      simp [Seq]
      refine CodeW.block ?_
      refine loop2 s (fun e h8 h9 => ?_) _ (by simp)
      simp [InBlock]
      rw [hP2]
      exact ⟨_, rfl, h8, h9⟩
    · intro r hr
      rw [hP2] at hr
      obtain ⟨e2, rfl, h8, h9⟩ := hr
      simp only [Seq]
      refine CodeW.seq (CodeW.region ?_)
      simp [OpsW, OpW, Seq]
      refine CallW.of_runIs (xs := []) refOps_run ?_
      refine CodeW.seq (CodeW.region ?_)
      simp [OpsW, OpW, Seq, h8, h9]
      refine CallW.of_runIs (xs := [.sl 119 true opsD, .sl 119 true opsD]) same_run ?_
      refine CodeW.ret ?_
      simp [FinW, F13_spindlelaw2_IsaInfo]
end Go.Sh
