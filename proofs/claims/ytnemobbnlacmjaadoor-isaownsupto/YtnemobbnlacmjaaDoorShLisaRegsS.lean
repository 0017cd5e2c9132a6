/- What the document's Reads comes to. -/
import Derived.Test.YtnemobbnlacmjaaDoorShLisaRegsR
set_option linter.unusedVariables false
set_option linter.unusedSimpArgs false
namespace Go.Sh
/-- Marks of the eleven registers. -/
def marksD (m : Nat → Bool) : List D := (List.range 11).map fun i => .b (m i)
def marked (m : Nat → Bool) (n : Nat) : List Int := ((List.range n).filter m).map fun i : Nat => (i : Int)
theorem marksD_len (m : Nat → Bool) : (marksD m).length = 11 := by simp [marksD]
theorem marksD_get (m : Nat → Bool) {i : Nat} (h : i < 11) : (marksD m)[i]? = some (.b (m i)) := by simp [marksD, h]
theorem marked_succ (m : Nat → Bool) (n : Nat) : marked m (n + 1) = if m n = true then marked m n ++ [(n : Int)] else marked m n := by
  unfold marked
  rw [List.range_succ, List.filter_append]
  by_cases h : m n = true <;> simp [h]
theorem marked_len (m : Nat → Bool) (n : Nat) : (marked m n).length ≤ n := by
  unfold marked
  rw [List.length_map]
  exact Nat.le_trans (List.length_filter_le _ _) (by simp)
theorem range11 : List.range 11 = [0, 1, 2, 3, 4, 5, 6, 7, 8, 9, 10] := rfl
theorem lay_marks (m : Nat → Bool) {k : Nat} (h : k < 11) : lay (ofDs (marksD m)) k [.d (.b true)] = ofDs (marksD fun i => m i || decide (i = k)) := by
  rcases (by omega : k = 0 ∨ k = 1 ∨ k = 2 ∨ k = 3 ∨ k = 4 ∨ k = 5 ∨ k = 6 ∨ k = 7 ∨ k = 8 ∨ k = 9 ∨ k = 10) with rfl | rfl | rfl | rfl | rfl | rfl | rfl | rfl | rfl | rfl | rfl <;> simp [lay, ofDs, marksD, range11]
theorem load_mark (m : Nat → Bool) {i : Nat} (h : i < 11) : ((ofDs (marksD m)).drop i).take 1 = [.d (.b (m i))] := by
  rcases (by omega : i = 0 ∨ i = 1 ∨ i = 2 ∨ i = 3 ∨ i = 4 ∨ i = 5 ∨ i = 6 ∨ i = 7 ∨ i = 8 ∨ i = 9 ∨ i = 10) with rfl | rfl | rfl | rfl | rfl | rfl | rfl | rfl | rfl | rfl | rfl <;> simp [ofDs, marksD, range11]
theorem marks_len' (m : Nat → Bool) : (ofDs (marksD m)).length = 11 := by simp [ofDs, marksD]
section
variable {pr : Prog} (hp : Sub rrefFns pr) {st : St}
include hp
theorem den_rising (m : Nat → Bool) : den pr 96 [.agg (ofDs (marksD m))] st = some (isl (marked m 11), st) := by
  refine den_shut (hp.at 4 rfl) rfl rfl (by simp; rfl) ?_
  simp [F96_spindleref2_rising]
  generalize hL : cden pr (.loop _ _ _) _ _ = o
  obtain ⟨r, rfl, hQ⟩ : ∃ r, o = some r ∧ ∃ e s, r = (.exit 0, e, s) ∧ (marked m 11 = [] ∧ e.get 3 = some (.d (.sl 0 false [])) ∨ marked m 11 ≠ [] ∧ e.get 3 = some (.own 1 (marked m 11).length true (icl (marked m 11)) 0)) := by
    rw [← hL]
    obtain ⟨J, hJ⟩ : ∃ J : Nat → Env → St → Prop, J = (fun n e st => ∃ i : Nat, i ≤ 11 ∧ n = 11 - i ∧
      (marked m i = [] ∧ st = s0 [.row (ofDs (marksD m))] [] 0 0 ∧ e = [(1, .ptr 0 0), (3, .d (.sl 0 false [])), (4, .d (.i .i64 i))] ∨
       marked m i ≠ [] ∧ st = s0 [.row (ofDs (marksD m))] [(marked m i).length] 0 0 ∧ e = [(1, .ptr 0 0), (3, .own 1 (marked m i).length true (icl (marked m i)) 0), (4, .d (.i .i64 i))])) := ⟨_, rfl⟩
    refine loop_j J ?_ (n := 11) ?_
    rotate_left
    · rw [hJ]
      exact ⟨0, by omega, rfl, .inl ⟨rfl, rfl, by simp⟩⟩
    intro n e st hj
    rw [hJ] at hj
    obtain ⟨i, hi, rfl, hcase⟩ := hj
    have hs := marked_succ m i
    have hln := marked_len m i
    rcases Nat.lt_or_ge i 11 with h | h
    · have h1 : IntKind.wrap .i64 ((i : Int) + 1) = i + 1 := wrap_i64 (by omega) (by omega)
      have h' : (i : Int) < 11 := by omega
      have h11 : i + 1 ≤ 11 := by omega
      have hlm := load_mark m h
      have hml := marks_len' m
      generalize ofDs (marksD m) = row at *
      generalize marked m i = l at *
      rcases hcase with ⟨hl, rfl, rfl⟩ | ⟨hl, rfl, rfl⟩
      · cases hmi : m i
        · rw [hmi] at hs hlm
          simp only [Bool.false_eq_true, if_false] at hs
          simp [F96_spindleref2_rising_b0, h', iaddrAV, h, hml, h11, hlm, h1]
          refine ⟨11 - (i + 1), by omega, ?_⟩
          rw [hJ]
          exact ⟨i + 1, by omega, rfl, .inl ⟨by rw [hs, hl], rfl, by simp⟩⟩
        · rw [hmi] at hs hlm
          simp only [if_true, hl, List.nil_append] at hs
          simp [F96_spindleref2_rising_b0, h', iaddrAV, h, hml, h11, hlm, h1, ofDs, reps, fillV, lay, appV, vw]
          refine ⟨11 - (i + 1), by omega, ?_⟩
          rw [hJ]
          refine ⟨i + 1, by omega, rfl, .inr ⟨by rw [hs]; simp, by rw [hs]; rfl, ?_⟩⟩
          rw [hs]
          simp [icl, ic]
      · cases hmi : m i
        · rw [hmi] at hs hlm
          simp only [Bool.false_eq_true, if_false] at hs
          simp [F96_spindleref2_rising_b0, h', iaddrAV, h, hml, h11, hlm, h1]
          refine ⟨11 - (i + 1), by omega, ?_⟩
          rw [hJ]
          exact ⟨i + 1, by omega, rfl, .inr ⟨by rw [hs]; exact hl, by rw [hs], by rw [hs]; simp⟩⟩
        · rw [hmi] at hs hlm
          simp only [if_true] at hs
          have hb1 : (l.length + 1) * 8 ≤ 140737488355328 := by omega
          have hb2 : l.length + 1 ≤ 140737488355328 := by omega
          have hil : (icl l).length = l.length := by
            unfold icl
            rw [map_flat_len icC, Nat.mul_one]
          simp [F96_spindleref2_rising_b0, h', iaddrAV, h, hml, h11, hlm, h1, ofDs, reps, fillV, lay, appV, vw, hb1, hb2, hil]
          refine ⟨11 - (i + 1), by omega, ?_⟩
          rw [hJ]
          refine ⟨i + 1, by omega, rfl, .inr ⟨by rw [hs]; simp, by rw [hs]; simp, ?_⟩⟩
          rw [hs]
          simp [icl, ic]
    · obtain rfl : i = 11 := by omega
      rcases hcase with ⟨hl, rfl, rfl⟩ | ⟨hl, rfl, rfl⟩
      · simp [F96_spindleref2_rising_b0, hl]
      · simp [F96_spindleref2_rising_b0, hl]
  obtain ⟨e, s, rfl, h | h⟩ := hQ
  · simp [h.1, h.2, isl, icl]
  · have : 0 < (marked m 11).length := List.length_pos_iff.2 h.1
    simp [h.2, isl, this]
end
/-- The marks, as a row. -/
def mrow (m : Nat → Bool) : List V := ofDs (marksD m)
theorem mrow_len (m : Nat → Bool) : (mrow m).length = 11 := marks_len' m
theorem mrow_set (m : Nat → Bool) {k : Nat} (h : k < 11) : (mrow m).take k ++ .d (.b true) :: (mrow m).drop (k + 1) = mrow fun i => m i || decide (i = k) := by
  have := lay_marks m h
  unfold lay at this
  simpa [mrow] using this
theorem mrow_set0 (m : Nat → Bool) : .d (.b true) :: (mrow m).tail = mrow fun i => m i || decide (i = 0) := by
  have := mrow_set m (k := 0) (by omega)
  simpa using this
theorem mrow_take (m : Nat → Bool) : (mrow m).take 11 = mrow m := List.take_of_length_le (by rw [mrow_len]; omega)
def callV (x : Ins) : List Int := if x.src = 1 then [0, 1, 2, 3, 4, 5, 6, 7, 8, 9] else if x.imm = 1 ∨ x.imm = 4 then [1, 2] else if x.imm = 2 then [1, 2, 3, 4] else []
def isMov (x : Ins) : Bool := decide (x.op = 183 ∨ x.op = 191 ∨ x.op = 180 ∨ x.op = 188)
/-- Which registers are read. -/
def readM (f : Int) (us : Bool) (x : Ins) (i : Nat) : Bool :=
  ((decide (f = 3) && !isMov x || decide (f = 2 ∨ f = 5 ∨ f = 6 ∨ f = 8)) && decide ((i : Int) = x.dst)) || (decide (f = 1) && decide (i = 0)) || (us && decide ((i : Int) = x.src)) || (decide (f = 6) && decide (x.imm = 241) && decide (i = 0))
def readsV (f : Int) (us : Bool) (x : Ins) : List Int := if f = 9 then callV x else marked (readM f us x) 11
section
variable {pr : Prog} (hR : RefOk pr) (hp : Sub rrefFns pr) {st : St}
include hp
theorem den_called (x : Ins) : den pr 95 [.agg (ofDs x.cells)] st = some (isl (callV x), st) := by
  refine den_shut (hp.at 3 rfl) rfl rfl (by simp; rfl) ?_
  have h09 := fun st => den_upTo (pr := pr) hp (st := st) (a := 0) (b := 9) (l := [0, 1, 2, 3, 4, 5, 6, 7, 8, 9]) (by simp)
  have h12 := fun st => den_upTo (pr := pr) hp (st := st) (a := 1) (b := 2) (l := [1, 2]) (by simp)
  have h14 := fun st => den_upTo (pr := pr) hp (st := st) (a := 1) (b := 4) (l := [1, 2, 3, 4]) (by simp)
  obtain ⟨op, dst, src, off, imm⟩ := x
  by_cases s1 : src = 1
  · have s1 : (src = 1) = True := eq_true s1
    simp [F95_spindleref2_called, Ins.cells, ofDs, callV, s1, h09]
  by_cases i1 : imm = 1
  · have i1 : (imm = 1) = True := eq_true i1
    simp [F95_spindleref2_called, Ins.cells, ofDs, callV, s1, i1, h12]
  by_cases i4 : imm = 4
  · have i4 : (imm = 4) = True := eq_true i4
    simp [F95_spindleref2_called, Ins.cells, ofDs, callV, s1, i1, i4, h12]
  by_cases i2 : imm = 2
  · have i2 : (imm = 2) = True := eq_true i2
    simp [F95_spindleref2_called, Ins.cells, ofDs, callV, s1, i1, i4, i2, h14]
  · simp [F95_spindleref2_called, Ins.cells, ofDs, callV, s1, i1, i4, i2, isl, icl]
include hR
theorem den_rReads_no {x : Ins} (h : mayV x ≠ 0) : den pr 87 [.agg (ofDs x.cells)] st = some (isl [], st) := by
  refine den_shut (hp.at 2 rfl) rfl rfl (by simp; rfl) ?_
  have hm : ∀ st, den pr 65 [.agg [.d (.i .i64 x.op), .d (.i .i64 x.dst), .d (.i .i64 x.src), .d (.i .i64 x.off), .d (.i .i64 x.imm)]] st = some (.d (.i .i64 (mayV x)), st) := fun st => den_rmay hR (st := st) x
  simp [F87_spindleref2_Reads, Ins.cells, ofDs, hm, h, isl, icl]
theorem den_rReads {x : Ins} {op : Nat} {c : OpC} (h : MayAt x op c) (h0 : mayV x = 0) : den pr 87 [.agg (ofDs x.cells)] st = some (isl (readsV c.form c.d.src x), st) := by
  refine den_shut (hp.at 2 rfl) rfl rfl (by simp; rfl) ?_
  have hm := fun st => den_rmay hR (st := st) x
  have hrange := may_range h0
  obtain ⟨r, rs, _, hform, hsrc, hrow⟩ := row_at hR h
  have hcall := fun st => den_called (pr := pr) hp (st := st) x
  have hrise := fun m st => den_rising (pr := pr) hp (st := st) m
  have hu := dsl_d rowC c.nz (r :: rs)
  have hia := hu.iaddr (i := 0) (k := .i64) (by omega) (by simp)
  have hld := fun st => hu.load (st := st) (i := 0) (o := 0) (n := 10) (agg := true) (el := r.cells) (by simp) (by omega) (by omega)
  have hz : [V.d (.b false), .d (.b false), .d (.b false), .d (.b false), .d (.b false), .d (.b false), .d (.b false), .d (.b false), .d (.b false), .d (.b false), .d (.b false)] = mrow fun _ => false := rfl
  have hrise : ∀ m st, den pr 96 [.agg (mrow m)] st = some (isl (marked m 11), st) := hrise
  have hmr : ∀ m m' : Nat → Bool, (∀ i, m i = m' i) → marked m 11 = marked m' 11 := fun m m' h => by rw [funext h]
  obtain ⟨iop, dst, src, off, imm⟩ := x
  have hop : iop = op := h.opv
  subst hop
  simp only at hrange
  obtain ⟨d, rfl⟩ : ∃ d : Nat, dst = d := ⟨dst.toNat, by omega⟩
  obtain ⟨s, rfl⟩ : ∃ s : Nat, src = s := ⟨src.toNat, by omega⟩
  have hd : d < 11 := by omega
  have hs : s < 11 := by omega
  have hd' : (d : Int) < 11 := by omega
  have hs' : (s : Int) < 11 := by omega
  simp only [Ins.cells, ofDs, List.map_cons, List.map_nil, h0] at hm hcall
  simp at hia
  simp only [Nat.zero_mul, List.drop_zero] at hld
  obtain ⟨rf, rg, rdst, rsrc, roff, rimm, rany, rsi, roi, rims⟩ := r
  simp only at hform hsrc
  rw [List.take_of_length_le (by simp [RowS.cells])] at hld
  simp only [RowS.cells, ofDs, List.map_cons, List.map_nil] at hld
  generalize V.d (.sl rims.length (decide (0 < rims.length)) (rims.map ic).flatten) = rl at *
  generalize dsl RowS.cells c.nz _ = rv at *
  subst hform
  subst hsrc
  generalize c.form = f at *
  generalize c.d.src = us at *
  have hsd := fun m => mrow_set m hd
  have hss := fun m => mrow_set m hs
  have hs0 := mrow_set0
  have hlm := mrow_len
  have htm := mrow_take
  have hd2 : d + 1 ≤ 11 := by omega
  have hs2 : s + 1 ≤ 11 := by omega
  have hie : ∀ i j : Nat, ((i : Int) = (j : Int)) ↔ i = j := fun i j => by omega
  by_cases f9 : f = 9
  · simp [F87_spindleref2_Reads, Ins.cells, ofDs, hm, hrow, hia, hld, hcall, lay, hz, hlm, f9, readsV]
  have hfin : ∀ m : Nat → Bool, (∀ i, m i = readM f us ⟨op, d, s, off, imm⟩ i) → isl (marked m 11) = isl (readsV f us ⟨op, d, s, off, imm⟩) := fun m hmm => by
    unfold readsV
    rw [if_neg f9, hmr _ _ hmm]
  have mi1 : ((op : Int) = 183) = (op = 183) := by apply propext; omega
  have mi2 : ((op : Int) = 191) = (op = 191) := by apply propext; omega
  have mi3 : ((op : Int) = 180) = (op = 180) := by apply propext; omega
  have mi4 : ((op : Int) = 188) = (op = 188) := by apply propext; omega
  by_cases f3 : f = 3
  · by_cases hmv : op = 183 ∨ op = 191 ∨ op = 180 ∨ op = 188
    · have hmv' : isMov ⟨op, d, s, off, imm⟩ = true := by simp [isMov]; omega
      have hfa : ∀ i, false = readM 3 false ⟨op, d, s, off, imm⟩ i := fun i => by simp [readM, hmv']
      have hfb : ∀ i, (false || decide (i = s)) = readM 3 true ⟨op, d, s, off, imm⟩ i := fun i => by simp [readM, hmv', hie]
      rcases hmv with hmv | hmv | hmv | hmv
      · have g0 := eq_true hmv
        cases us
        · simp [F87_spindleref2_Reads, Ins.cells, ofDs, hm, hrow, hia, hld, lay, hz, hlm, htm, hrise, iaddrAV, mi1, mi2, mi3, mi4, f3, g0]
          subst f3
          exact hfin _ hfa
        · simp [F87_spindleref2_Reads, Ins.cells, ofDs, hm, hrow, hia, hld, lay, hz, hlm, htm, hrise, iaddrAV, mi1, mi2, mi3, mi4, f3, g0, hs, hs', hs2, hss]
          subst f3
          exact hfin _ fun i => by simpa using hfb i
      · have g1 := eq_true hmv
        have g0 : ¬ op = 183 := by omega
        cases us
        · simp [F87_spindleref2_Reads, Ins.cells, ofDs, hm, hrow, hia, hld, lay, hz, hlm, htm, hrise, iaddrAV, mi1, mi2, mi3, mi4, f3, g0, g1]
          subst f3
          exact hfin _ hfa
        · simp [F87_spindleref2_Reads, Ins.cells, ofDs, hm, hrow, hia, hld, lay, hz, hlm, htm, hrise, iaddrAV, mi1, mi2, mi3, mi4, f3, g0, g1, hs, hs', hs2, hss]
          subst f3
          exact hfin _ fun i => by simpa using hfb i
      · have g2 := eq_true hmv
        have g0 : ¬ op = 183 := by omega
        have g1 : ¬ op = 191 := by omega
        cases us
        · simp [F87_spindleref2_Reads, Ins.cells, ofDs, hm, hrow, hia, hld, lay, hz, hlm, htm, hrise, iaddrAV, mi1, mi2, mi3, mi4, f3, g0, g1, g2]
          subst f3
          exact hfin _ hfa
        · simp [F87_spindleref2_Reads, Ins.cells, ofDs, hm, hrow, hia, hld, lay, hz, hlm, htm, hrise, iaddrAV, mi1, mi2, mi3, mi4, f3, g0, g1, g2, hs, hs', hs2, hss]
          subst f3
          exact hfin _ fun i => by simpa using hfb i
      · have g3 := eq_true hmv
        have g0 : ¬ op = 183 := by omega
        have g1 : ¬ op = 191 := by omega
        have g2 : ¬ op = 180 := by omega
        cases us
        · simp [F87_spindleref2_Reads, Ins.cells, ofDs, hm, hrow, hia, hld, lay, hz, hlm, htm, hrise, iaddrAV, mi1, mi2, mi3, mi4, f3, g0, g1, g2, g3]
          subst f3
          exact hfin _ hfa
        · simp [F87_spindleref2_Reads, Ins.cells, ofDs, hm, hrow, hia, hld, lay, hz, hlm, htm, hrise, iaddrAV, mi1, mi2, mi3, mi4, f3, g0, g1, g2, g3, hs, hs', hs2, hss]
          subst f3
          exact hfin _ fun i => by simpa using hfb i
    · have hmv' : isMov ⟨op, d, s, off, imm⟩ = false := by simp [isMov]; omega
      have g0 : ¬ op = 183 := by omega
      have g1 : ¬ op = 191 := by omega
      have g2 : ¬ op = 180 := by omega
      have g3 : ¬ op = 188 := by omega
      have hfa : ∀ i, decide (i = d) = readM 3 false ⟨op, d, s, off, imm⟩ i := fun i => by simp [readM, hmv', hie]
      have hfb : ∀ i, (decide (i = d) || decide (i = s)) = readM 3 true ⟨op, d, s, off, imm⟩ i := fun i => by simp [readM, hmv', hie]
      cases us
      · simp [F87_spindleref2_Reads, Ins.cells, ofDs, hm, hrow, hia, hld, lay, hz, hlm, htm, hrise, iaddrAV, mi1, mi2, mi3, mi4, f3, g0, g1, g2, g3, hd, hd', hd2, hsd]
        subst f3
        exact hfin _ hfa
      · simp [F87_spindleref2_Reads, Ins.cells, ofDs, hm, hrow, hia, hld, lay, hz, hlm, htm, hrise, iaddrAV, mi1, mi2, mi3, mi4, f3, g0, g1, g2, g3, hd, hd', hd2, hsd, hs, hs', hs2, hss]
        subst f3
        exact hfin _ hfb
  by_cases f2 : f = 2
  · have hfa : ∀ i, decide (i = d) = readM 2 false ⟨op, d, s, off, imm⟩ i := fun i => by simp [readM, hie]
    have hfb : ∀ i, (decide (i = d) || decide (i = s)) = readM 2 true ⟨op, d, s, off, imm⟩ i := fun i => by simp [readM, hie]
    cases us
    · simp [F87_spindleref2_Reads, Ins.cells, ofDs, hm, hrow, hia, hld, lay, hz, hlm, htm, hrise, iaddrAV, mi1, mi2, mi3, mi4, f2, hd, hd', hd2, hsd]
      subst f2
      exact hfin _ hfa
    · simp [F87_spindleref2_Reads, Ins.cells, ofDs, hm, hrow, hia, hld, lay, hz, hlm, htm, hrise, iaddrAV, mi1, mi2, mi3, mi4, f2, hd, hd', hd2, hsd, hs, hs', hs2, hss]
      subst f2
      exact hfin _ hfb
  by_cases f5 : f = 5
  · have hfa : ∀ i, decide (i = d) = readM 5 false ⟨op, d, s, off, imm⟩ i := fun i => by simp [readM, hie]
    have hfb : ∀ i, (decide (i = d) || decide (i = s)) = readM 5 true ⟨op, d, s, off, imm⟩ i := fun i => by simp [readM, hie]
    cases us
    · simp [F87_spindleref2_Reads, Ins.cells, ofDs, hm, hrow, hia, hld, lay, hz, hlm, htm, hrise, iaddrAV, mi1, mi2, mi3, mi4, f5, hd, hd', hd2, hsd]
      subst f5
      exact hfin _ hfa
    · simp [F87_spindleref2_Reads, Ins.cells, ofDs, hm, hrow, hia, hld, lay, hz, hlm, htm, hrise, iaddrAV, mi1, mi2, mi3, mi4, f5, hd, hd', hd2, hsd, hs, hs', hs2, hss]
      subst f5
      exact hfin _ hfb
  by_cases f8 : f = 8
  · have hfa : ∀ i, decide (i = d) = readM 8 false ⟨op, d, s, off, imm⟩ i := fun i => by simp [readM, hie]
    have hfb : ∀ i, (decide (i = d) || decide (i = s)) = readM 8 true ⟨op, d, s, off, imm⟩ i := fun i => by simp [readM, hie]
    cases us
    · simp [F87_spindleref2_Reads, Ins.cells, ofDs, hm, hrow, hia, hld, lay, hz, hlm, htm, hrise, iaddrAV, mi1, mi2, mi3, mi4, f8, hd, hd', hd2, hsd]
      subst f8
      exact hfin _ hfa
    · simp [F87_spindleref2_Reads, Ins.cells, ofDs, hm, hrow, hia, hld, lay, hz, hlm, htm, hrise, iaddrAV, mi1, mi2, mi3, mi4, f8, hd, hd', hd2, hsd, hs, hs', hs2, hss]
      subst f8
      exact hfin _ hfb
  by_cases f6 : f = 6
  · by_cases i241 : imm = 241
    · have hfa : ∀ i, (decide (i = d) || decide (i = 0)) = readM 6 false ⟨op, d, s, off, imm⟩ i := fun i => by simp [readM, hie, i241]
      have hfb : ∀ i, (decide (i = d) || decide (i = s) || decide (i = 0)) = readM 6 true ⟨op, d, s, off, imm⟩ i := fun i => by simp [readM, hie, i241]
      have i241 : (imm = 241) = True := eq_true i241
      cases us
      · simp [F87_spindleref2_Reads, Ins.cells, ofDs, hm, hrow, hia, hld, lay, hz, hlm, htm, hrise, iaddrAV, mi1, mi2, mi3, mi4, f6, hd, hd', hd2, hsd, i241, hs0]
        subst f6
        exact hfin _ hfa
      · simp [F87_spindleref2_Reads, Ins.cells, ofDs, hm, hrow, hia, hld, lay, hz, hlm, htm, hrise, iaddrAV, mi1, mi2, mi3, mi4, f6, hd, hd', hd2, hsd, hs, hs', hs2, hss, i241, hs0]
        subst f6
        exact hfin _ hfb
    · have hfa : ∀ i, decide (i = d) = readM 6 false ⟨op, d, s, off, imm⟩ i := fun i => by simp [readM, hie, i241]
      have hfb : ∀ i, (decide (i = d) || decide (i = s)) = readM 6 true ⟨op, d, s, off, imm⟩ i := fun i => by simp [readM, hie, i241]
      cases us
      · simp [F87_spindleref2_Reads, Ins.cells, ofDs, hm, hrow, hia, hld, lay, hz, hlm, htm, hrise, iaddrAV, mi1, mi2, mi3, mi4, f6, hd, hd', hd2, hsd, i241]
        subst f6
        exact hfin _ hfa
      · simp [F87_spindleref2_Reads, Ins.cells, ofDs, hm, hrow, hia, hld, lay, hz, hlm, htm, hrise, iaddrAV, mi1, mi2, mi3, mi4, f6, hd, hd', hd2, hsd, hs, hs', hs2, hss, i241]
        subst f6
        exact hfin _ hfb
  by_cases f1 : f = 1
  · have hfa : ∀ i, decide (i = 0) = readM 1 false ⟨op, d, s, off, imm⟩ i := fun i => by simp [readM, hie]
    have hfb : ∀ i, (decide (i = 0) || decide (i = s)) = readM 1 true ⟨op, d, s, off, imm⟩ i := fun i => by simp [readM, hie]
    cases us
    · simp [F87_spindleref2_Reads, Ins.cells, ofDs, hm, hrow, hia, hld, lay, hz, hlm, htm, hrise, iaddrAV, mi1, mi2, mi3, mi4, f1, hs0]
      subst f1
      exact hfin _ hfa
    · simp [F87_spindleref2_Reads, Ins.cells, ofDs, hm, hrow, hia, hld, lay, hz, hlm, htm, hrise, iaddrAV, mi1, mi2, mi3, mi4, f1, hs0, hs, hs', hs2, hss]
      subst f1
      exact hfin _ hfb
  have hfa : ∀ i, false = readM f false ⟨op, d, s, off, imm⟩ i := fun i => by simp [readM, f3, f2, f5, f8, f6, f1]
  have hfb : ∀ i, decide (i = s) = readM f true ⟨op, d, s, off, imm⟩ i := fun i => by simp [readM, hie, f3, f2, f5, f8, f6, f1]
  cases us
  · simp [F87_spindleref2_Reads, Ins.cells, ofDs, hm, hrow, hia, hld, lay, hz, hlm, htm, hrise, iaddrAV, mi1, mi2, mi3, mi4, f3, f2, f5, f8, f9, f6, f1]
    exact hfin _ hfa
  · simp [F87_spindleref2_Reads, Ins.cells, ofDs, hm, hrow, hia, hld, lay, hz, hlm, htm, hrise, iaddrAV, mi1, mi2, mi3, mi4, f3, f2, f5, f8, f9, f6, f1, hs, hs', hs2, hss]
    exact hfin _ hfb
end
end Go.Sh
