/- Instructions that are turned. -/
import Derived.Test.YtbjckcenlfgcaabDoorShLcodeK
set_option linter.unusedVariables false
set_option linter.unusedSimpArgs false
namespace Go.Sh
theorem LR.escI {s : St} {sz n : Nat} {v : V} {F : List D} {j : Option Nat} (h : LR s sz v n (ofDs F) j) : ∃ nz, Go.Sh.esc s 0 0 v = some (.d (.sl n nz F)) := by
  obtain ⟨h0, ⟨rfl, rfl, rfl⟩ | ⟨j0, cap, tail, rfl, rfl, h1, h2, h3⟩⟩ := h
  · have : F = [] := by
      cases F with
      | nil => rfl
      | cons a l => simp [ofDs] at h0
    subst this
    exact ⟨false, rfl⟩
  · refine ⟨true, ?_⟩
    have hl : n * sz ≤ (ofDs F ++ tail).length := by rw [List.length_append]; omega
    have ht : (ofDs F ++ tail).take (n * sz) = ofDs F := by rw [← h0]; exact List.take_left' rfl
    simp [Go.Sh.esc, esc1, escC, cellsAt, h2, hl, ht, toDs_of]
    omega
theorem LR.set5 {s : St} {v : V} {n : Nat} {ts : List Ins} {j : Option Nat} (h : LR s 5 v n (ofDs (ts.map Ins.cells).flatten) j) (hn : ts.length = n) {k : Nat} (hk : k < n) (y : Ins) : ∃ j0 R, j = some j0 ∧ iaddrV 5 v (.d (.i .i64 (k : Int))) = some (.ptr j0 (k * 5)) ∧ s.row j0 = some R ∧ k * 5 + 5 ≤ R.length ∧
    LR (s.put j0 (lay R (k * 5) (ofDs y.cells))) 5 v n (ofDs ((ts.set k y).map Ins.cells).flatten) j := by
  obtain ⟨jq, hj0, hia⟩ := h.iaddr (k := .i64) hk
  obtain ⟨h00, ⟨_, _, hz⟩ | ⟨j0, cap, tail, hj, hv1, hcap, hrow, htl⟩⟩ := h
  · omega
  rw [hj] at hj0
  obtain rfl := Option.some.inj hj0
  obtain ⟨x, hx⟩ : ∃ x, ts[k]? = some x := ⟨_, List.getElem?_eq_getElem (by omega)⟩
  have hsp : ts = ts.take k ++ x :: ts.drop (k + 1) := by
    rw [← (List.getElem?_eq_some_iff.1 hx).2, List.getElem_cons_drop, List.take_append_drop]
  have hst : ts.set k y = ts.take k ++ y :: ts.drop (k + 1) := by
    rw [List.set_eq_take_append_cons_drop, if_pos (by omega)]
  have hpl : (ofDs ((ts.take k).map Ins.cells).flatten).length = k * 5 := by rw [cells5, List.length_take]; omega
  have hF : ofDs (ts.map Ins.cells).flatten ++ tail = ofDs ((ts.take k).map Ins.cells).flatten ++ (ofDs x.cells ++ (ofDs ((ts.drop (k + 1)).map Ins.cells).flatten ++ tail)) := by
    conv => lhs; rw [hsp]
    simp [ofDs]
  have hF2 : ofDs ((ts.set k y).map Ins.cells).flatten ++ tail = ofDs ((ts.take k).map Ins.cells).flatten ++ (ofDs y.cells ++ (ofDs ((ts.drop (k + 1)).map Ins.cells).flatten ++ tail)) := by
    rw [hst]
    simp [ofDs]
  refine ⟨j0, _, hj, hia, hrow, ?_, ?_, .inr ⟨j0, cap, tail, hj, hv1, hcap, ?_, htl⟩⟩
  · rw [List.length_append, cells5]
    omega
  · rw [cells5, List.length_set, hn]
  · rw [row_put_eq (row_lt hrow), hF, lay_mid5 hpl (show (ofDs x.cells).length = (ofDs y.cells).length from rfl), hF2]
section
variable {pr : Prog} (hp : Sub lendFns pr) (hq : Sub law3Fns pr) {st : St}
include hp hq
theorem callW_TurnedI {u : V} {nz : Bool} {is : List Ins} (hu : u = dsl Ins.cells nz is) (hn : is.length ≤ 100000000000) (k : Int) : CallW pr 2 [u, .d (.i .i64 k)] st fun v s => s = st ∧ ∃ (ts : List Ins) (nz' : Bool), v = dsl Ins.cells nz' ts ∧ ts.length = is.length := by
  refine .run0 (fun f => f == 7) (hp.at 2 rfl) (show closeA [u, .d (.i .i64 k)] = some [u, .d (.i .i64 k)] by rw [hu]; rfl) rfl rfl (codeC_of ?_)
  simp [F2_spindlelaw3_Turned]
  refine (callW_copyInsR (m := 0) (nz := nz) (is := is) hq (by rw [hu]; rfl) (by omega)).mono ?_
  rintro v1 s1 ⟨j, t, rfl, hl⟩
  have hd := dsl_d insC nz is
  rw [← hu] at hd
  have hlen := hd.len
  rw [List.length_map] at hlen
  have hl1 := hl.len
  have hfl : ((s0 [] [] 0 0).push (.row (ofDs (is.map Ins.cells).flatten ++ t))).floor = 0 := rfl
  generalize (s0 [] [] 0 0).push (.row (ofDs (is.map Ins.cells).flatten ++ t)) = s1 at *
  -- the end
  have hend : ∀ {s : St} {ts : List Ins}, LR s 5 v1 is.length (ofDs (ts.map Ins.cells).flatten) j → ts.length = is.length → ∃ z, esc s 0 0 v1 = some z ∧ ∃ ts : List Ins, (z = dsl Ins.cells false ts ∨ z = dsl Ins.cells true ts) ∧ ts.length = is.length := by
    intro s ts h ht
    obtain ⟨nz, he⟩ := LR.escI h
    refine ⟨_, he, ts, ?_, ht⟩
    rw [← ht]
    cases nz
    · exact .inl rfl
    · exact .inr rfl
  have hset : ∀ (s : St) (j0 : Nat) (cs : List V), s.floor = 0 → s.setBlk j0 (.row cs) = some (s.put j0 cs) := fun s j0 cs h => setBlk_put h
  -- the loop
  have hloop : ∀ {s : St} {ts : List Ins} {Q : Out → Prop}, s.floor = 0 → LR s 5 v1 is.length (ofDs (ts.map Ins.cells).flatten) j → ts.length = is.length → (∀ e s' (ts' : List Ins), e.get 5 = some v1 → LR s' 5 v1 is.length (ofDs (ts'.map Ins.cells).flatten) j → ts'.length = is.length → Q (.exit 0, e, s')) →
      CodeW pr (.loop [0, 1, 5, 6] false F2_spindlelaw3_Turned_b0) [(0, u), (1, .d (.i .i64 k)), (5, v1), (6, .d (.i .i64 0))] s Q := by
    intro s ts Q hf h ht hQ
    refine loopW_j (fun f => f == 7) (fun n e s => ∃ (i : Nat) (ts : List Ins), i ≤ is.length ∧ n = is.length - i ∧ e = [(0, u), (1, .d (.i .i64 k)), (5, v1), (6, .d (.i .i64 i))] ∧ s.floor = 0 ∧ LR s 5 v1 is.length (ofDs (ts.map Ins.cells).flatten) j ∧ ts.length = is.length) ?_ (n := is.length) ⟨0, ts, Nat.zero_le _, rfl, by simp, hf, h, ht⟩
    rintro n e s ⟨i, ts, hi, rfl, rfl, hf, h, ht⟩
    by_cases hk2 : k = 2
    rotate_left
    · simp [F2_spindlelaw3_Turned_b0, hk2]
      exact hQ _ _ ts (by simp) h ht
    rcases Nat.lt_or_ge i is.length with hlt | hge
    rotate_left
    · have hn : ¬ (i < is.length) := by omega
      simp [F2_spindlelaw3_Turned_b0, hk2, hl1, hn]
      exact hQ _ _ ts (by simp) h ht
    obtain ⟨x, hx⟩ : ∃ x, is[is.length - 1 - i]? = some x := ⟨_, List.getElem?_eq_getElem (by omega)⟩
    have hia := hd.iaddr (i := ((is.length - 1 - i : Nat) : Int)) (k := .i64) (by omega) (by simp; omega)
    have hld : ∀ st, loadV 5 true st (elP 5 u (is.length - 1 - i) 0) = some (.agg (ofDs x.cells)) := fun st => hd.load (st := st) (i := is.length - 1 - i) (o := 0) (n := 5) (agg := true) (el := x.cells) (by simp [hx]) (by omega) (by simp [Ins.cells])
    simp only [Int.toNat_natCast] at hia
    have w1 : IntKind.wrap .i64 ((is.length : Int) - 1) = (is.length : Int) - 1 := wrap_i64 (by omega) (by omega)
    have w2 : IntKind.wrap .i64 ((is.length : Int) - 1 - i) = ((is.length - 1 - i : Nat) : Int) := by rw [wrap_i64 (by omega) (by omega)]; omega
    have w3 : IntKind.wrap .i64 ((i : Int) + 1) = i + 1 := wrap_i64 (by omega) (by omega)
    obtain ⟨j0, R, hj0, a1, a2, a3, a4⟩ := h.set5 ht hlt x
    have hcl : (ofDs x.cells).length = 5 := rfl
    generalize is.length - 1 - i = m at *
    simp [F2_spindlelaw3_Turned_b0, hk2, hl1, hlt, hlen, w1, w2, w3, hia, hld, a1, a2, a3, hcl, hset _ _ _ hf]
    exact ⟨is.length - (i + 1), by omega, i + 1, by omega, rfl, rfl, hf, ts.set i x, a4, by rw [List.length_set]; exact ht⟩
  by_cases hk1 : k = 1
  rotate_left
  · simp [hk1]
    refine hloop hfl hl rfl fun e s' ts' h5 h ht => ?_
    simp [h5]
    exact hend h ht
  by_cases hpos : 0 < is.length
  rotate_left
  · simp [hk1, hl1, hpos]
    rw [← hk1]
    refine hloop hfl hl rfl fun e s' ts' h5 h ht => ?_
    simp [h5]
    exact hend h ht
  obtain ⟨h2, hh2⟩ : ∃ h2, h2 = is.length / 2 := ⟨_, rfl⟩
  have hdv : (is.length : Int).tdiv 2 = (h2 : Int) := by rw [hh2]; simp [Int.ofNat_tdiv]
  have wk : IntKind.wrap .i64 (h2 : Int) = h2 := wrap_i64 (by omega) (by omega)
  obtain ⟨j0, R, hj0, a1, a2, a3, a4⟩ := hl.set5 rfl (k := h2) (by omega) ⟨149, 0, 0, 0, 0⟩
  have hcl : ofDs (Ins.cells ⟨149, 0, 0, 0, 0⟩) = [.d (.i .i64 149), .d (.i .i64 0), .d (.i .i64 0), .d (.i .i64 0), .d (.i .i64 0)] := rfl
  rw [hcl] at a4
  simp [hk1, hl1, hpos, hdv, wk, a1, a2, a3, hset _ _ _ hfl, fillV, lay, ofDs]
  rw [← hk1]
  refine hloop (ts := is.set h2 ⟨149, 0, 0, 0, 0⟩) hfl (by simpa [lay, ofDs] using a4) (by rw [List.length_set]) fun e s' ts' h5 h ht => ?_
  simp [h5]
  exact hend h ht
end
end Go.Sh
