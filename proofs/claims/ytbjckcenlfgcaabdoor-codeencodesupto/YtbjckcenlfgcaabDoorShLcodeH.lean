/- Encode, whose bytes are new memory; copies that are new memory. -/
import Derived.Test.YtbjckcenlfgcaabDoorShLcodeE
import Derived.Test.YtbjckcenlfgcaabDoorShBe
set_option linter.unusedVariables false
set_option linter.unusedSimpArgs false
namespace Go.Sh
section
variable {pr : Prog} (hI : IsaOk pr) (hp : Sub codeFns pr) {st : St}
include hI hp
theorem raw_Encode {u : V} {is : List Ins} (hu : SlD 5 u (is.map Ins.cells)) (hl : is.length ≤ 7036874417766) : RawD pr F70_code_Encode [u] fun v s => (firstBad is = none ∧ v = .tup [.own 1 (iencs is).length true (byteCells (iencs is)) 0, .d (.i .i64 0), .d (.i .i64 0)] ∧ s.tips[0]? = some (iencs is).length) ∨
    ∃ i, firstBad is = some i ∧ v = .tup [.d (.sl 0 false []), .d (.i .i64 i), .d (.i .i64 (mayV (is.getD i ⟨0, 0, 0, 0, 0⟩)))] := by
  refine .of ?_
  have hlen := hu.len
  rw [List.length_map] at hlen
  have hes := fun st a b => hu.esc st a b
  have hslots := fun st => den_slots (pr := pr) hp (st := st) hu.c (by omega)
  have hsl := slotsOf_le is
  have hm8 : IntKind.wrap .i64 (8 * (slotsOf is : Int)) = 8 * slotsOf is := wrap_i64 (by omega) (by omega)
  simp [F70_code_Encode, hlen]
  generalize hL : cden pr (.loop _ _ _) _ _ = o
  obtain ⟨r, rfl, hQ⟩ : ∃ r, o = some r ∧ ((firstBad is = none ∧ ∃ e, r = (.exit 0, e, s0 [] [] 0 0) ∧ e.get 0 = some u) ∨ ∃ i e, firstBad is = some i ∧ r = (.ret, e, s0 [] [] 0 0) ∧ e.get 2 = some (.d (.sl 0 false [])) ∧ e.get 3 = some (.d (.i .i64 i)) ∧ e.get 4 = some (.d (.i .i64 (mayV (is.getD i ⟨0, 0, 0, 0, 0⟩))))) := by
    rw [← hL]
    obtain ⟨J, hJ⟩ : ∃ J : Nat → Env → St → Prop, J = (fun n e st => ∃ i : Nat, i ≤ is.length ∧ n = is.length - i ∧ (∀ y ∈ is.take i, mayV y = 0) ∧ st = s0 [] [] 0 0 ∧ e = [(0, u), (11, u), (12, .d (.i .i64 is.length)), (13, .d (.i .i64 i))]) := ⟨_, rfl⟩
    refine loop_j J ?_ (n := is.length) ?_
    rotate_left
    · rw [hJ]
      exact ⟨0, by omega, by omega, by simp, rfl, by simp⟩
    intro n e st hj
    rw [hJ] at hj
    obtain ⟨i, hi, rfl, hok, rfl, rfl⟩ := hj
    rcases Nat.lt_or_ge i is.length with h | h
    · obtain ⟨x, hx⟩ : ∃ x, is[i]? = some x := ⟨_, List.getElem?_eq_getElem h⟩
      have h1 : IntKind.wrap .i64 ((i : Int) + 1) = i + 1 := wrap_i64 (by omega) (by omega)
      have hia := hu.iaddr (i := (i : Int)) (k := .i64) (by omega) (by simp; omega)
      have hld := fun st => hu.load (st := st) (i := i) (o := 0) (n := 5) (agg := true) (el := x.cells) (by simp [hx]) (by omega) (by omega)
      have hm := fun st => den_may hI (st := st) x
      have hmx : ∀ st, den pr 27 [.agg [.d (.i .i64 x.op), .d (.i .i64 x.dst), .d (.i .i64 x.src), .d (.i .i64 x.off), .d (.i .i64 x.imm)]] st = some (.d (.i .i64 (mayV x)), st) := hm
      by_cases hb : mayV x = 0
      · simp [F70_code_Encode_b0, h, hia, hld, ins_take, Ins.cells, ofDs, lay, hmx, hb, h1, hes]
        refine ⟨is.length - (i + 1), by omega, ?_⟩
        rw [hJ]
        refine ⟨i + 1, by omega, rfl, ?_, rfl, by simp⟩
        intro y hy
        rw [take_succ' hx] at hy
        simp only [List.mem_append, List.mem_singleton] at hy
        rcases hy with hy | rfl
        · exact hok y hy
        · exact hb
      · have hfb := firstBad_some hok ⟨x, hx, hb⟩
        obtain ⟨_, hxx⟩ := List.getElem?_eq_some_iff.1 hx
        simp [F70_code_Encode_b0, h, hia, hld, ins_take, Ins.cells, ofDs, lay, hmx, hb, h1, hes, hfb, hxx]
    · have hil : i = is.length := by omega
      rw [hil, List.take_length] at hok
      have hfb := firstBad_none.2 hok
      simp [F70_code_Encode_b0, hil, hfb, hes]
  rcases hQ with ⟨hfb, e, rfl, g0⟩ | ⟨i, e, hfb, rfl, g2, g3, g4⟩
  rotate_left
  · simp [g2, g3, g4, hfb]
  have hall := firstBad_none.1 hfb
  have hr0 : room 1 (.d (.i .i64 0)) = some 0 := by simp [room]
  have hr1 : room 1 (.d (.i .i64 (8 * (slotsOf is : Int)))) = some (8 * slotsOf is) := by
    simp only [room]
    rw [if_pos (by omega)]
    congr 1
  simp [g0, hslots, hm8, hlen, hr0, hr1, reps]
  generalize hL2 : cden pr (.loop _ _ _) _ _ = o
  obtain ⟨r, rfl, hQ⟩ : ∃ r, o = some r ∧ ∃ e, r = (.exit 2, e, s0 [] [(iencs is).length] 0 0) ∧ e.get 8 = some (.own 1 (iencs is).length true (byteCells (iencs is)) 0) := by
    rw [← hL2]
    refine loop_n is.length (fun i => [(8, .own 1 (iencs (is.take i)).length true (byteCells (iencs (is.take i))) 0), (29, u), (30, .d (.i .i64 is.length)), (31, .d (.i .i64 i))]) (fun i => s0 [] [(iencs (is.take i)).length] 0 0) ?_ (by simp [iencs, byteCells]) (by simp [iencs])
    intro i hi
    rcases Nat.lt_or_ge i is.length with h | h
    · obtain ⟨x, hx⟩ : ∃ x, is[i]? = some x := ⟨_, List.getElem?_eq_getElem h⟩
      have hmay := may_range (hall x (List.mem_of_getElem? hx))
      have hs := slotsOf_le (is.take i)
      rw [List.length_take] at hs
      have h1 : IntKind.wrap .i64 ((i : Int) + 1) = i + 1 := wrap_i64 (by omega) (by omega)
      have hia := hu.iaddr (i := (i : Int)) (k := .i64) (by omega) (by simp; omega)
      have hld := fun st => hu.load (st := st) (i := i) (o := 0) (n := 5) (agg := true) (el := x.cells) (by simp [hx]) (by omega) (by omega)
      have hlaid : ∀ st, den pr 76 [.agg [.d (.i .i64 x.op), .d (.i .i64 x.dst), .d (.i .i64 x.src), .d (.i .i64 x.off), .d (.i .i64 x.imm)]] st = some (bsl true x.enc, st) := fun st => den_laid hp (st := st) x (by omega) (by omega) (by omega) (by omega) (by omega) (by omega)
      have hxl : x.enc.length ≤ 16 := by
        rw [Ins.enc_len]
        split <;> omega
      have htl := iencs_len (is.take i)
      have happ : iencs (is.take (i + 1)) = iencs (is.take i) ++ x.enc := by
        rw [take_succ' hx, iencs_app]
        simp [iencs]
      generalize iencs (is.take i) = A at *
      generalize x.enc = B at *
      have hb1 : A.length + B.length ≤ 140737488355328 := by omega
      simp [F70_code_Encode_b1, h, hia, hld, ins_take, Ins.cells, ofDs, lay, hlaid, h1, hes, happ, appV, hb1, byteCells_len, byteCells_app]
    · obtain rfl : i = is.length := by omega
      simp [F70_code_Encode_b1]
  obtain ⟨e, rfl, h8⟩ := hQ
  simp [h8, hfb]
theorem callW_Encode {v u : V} {m : Nat} {is : List Ins} (hc : seeA st m [v] = some [u]) (hu : SlD 5 u (is.map Ins.cells)) (hl : is.length ≤ 7036874417766) : CallW pr 70 [v] st fun r s => (∃ k, firstBad is = none ∧ r = .tup [.rsl 1 st.heap.length 0 (iencs is).length ((iencs is).length + k), .d (.i .i64 0), .d (.i .i64 0)] ∧ s = st.push (.row (brow (iencs is) k))) ∨
    ∃ i, firstBad is = some i ∧ r = .tup [.d (.sl 0 false []), .d (.i .i64 i), .d (.i .i64 (mayV (is.getD i ⟨0, 0, 0, 0, 0⟩)))] ∧ s = st := by
  refine .seen hc (((raw_Encode hI hp hu hl).callW (hp.at 1 rfl) rfl).mono ?_)
  rintro v s (⟨hf, rfl, ht⟩ | ⟨i, hf, rfl⟩)
  · have hcl : (byteCells (iencs is)).length = (iencs is).length := byteCells_len _
    have hfl := bytes_flat (iencs is)
    simp only [FreshR, FreshL, FreshV, ht, hfl, hcl, true_and, Nat.mul_one]
    refine .inr fun k => ⟨rfl, .inl ⟨k, hf, rfl, ?_⟩⟩
    simp [pushO, brow]
  · simp [FreshR, FreshL, FreshV, D.flat, pushO, V.flat, hf]
end
section
variable {pr : Prog} (hq : Sub law3Fns pr) {st : St}
include hq
omit hq in
theorem raw_copyIns {nz : Bool} {is : List Ins} (hl : is.length ≤ 3518437208883) : RawD pr F7_spindlelaw0_CopyInsns [dsl Ins.cells nz is] fun v s => v = .own 5 is.length true ((is.map Ins.cells).flatten) 0 ∧ s.tips[0]? = some is.length := by
  refine .of ?_
  have hcp := appV_copy insC (nz := nz) (l := is) (bytes := 40) (ts := [0]) (bs := []) (fl := 0) (tf := 0) (t := 0) rfl (by omega) (by omega) (by omega)
  simp [F7_spindlelaw0_CopyInsns, fillV, reps, ofDs, hcp]
/-- A copy in new memory. -/
theorem callW_copyInsR {v : V} {m : Nat} {nz : Bool} {is : List Ins} (hc : seeA st m [v] = some [dsl Ins.cells nz is]) (hl : is.length ≤ 3518437208883) : CallW pr 7 [v] st fun r s => ∃ j t, s = st.push (.row (ofDs (is.map Ins.cells).flatten ++ t)) ∧ LR s 5 r is.length (ofDs (is.map Ins.cells).flatten) j := by
  refine .seen hc (((raw_copyIns hl).callW (hq.at 1 rfl) rfl).mono ?_)
  rintro v s ⟨rfl, ht⟩
  have hfl : ((is.map Ins.cells).flatten).length = is.length * 5 := by rw [flatten_len (sz := 5) (fun y hy => by simp only [List.mem_map] at hy; obtain ⟨z, _, rfl⟩ := hy; rfl), List.length_map]
  have hall : ((is.map Ins.cells).flatten).all D.flat = true := by simp [Ins.cells, D.flat]
  generalize (is.map Ins.cells).flatten = F at *
  simp only [FreshR, FreshV, ht, hfl, hall, true_and]
  refine .inr fun k => ⟨some st.heap.length, List.replicate (k * 5) (.d .any), rfl, by rw [ofDs, List.length_map, hfl], .inr ⟨_, is.length + k, List.replicate (k * 5) (.d .any), rfl, rfl, Nat.le_add_right _ _, row_push_new rfl, ?_⟩⟩
  rw [List.length_replicate]
  omega
end
end Go.Sh
