/- String tables: Add, At, Names, Bytes. -/
import Derived.Test.YtpgipjjhapapjaaShLstrsC
set_option linter.unusedVariables false
set_option linter.unusedSimpArgs false
namespace Go.Sh
/-- The names as they are handed out. -/
def nmsV (ns : List Nm) : V := .d (.sl ns.length (decide (ns ≠ [])) (ns.map .s))
def atI (x : Int) (ns : List Nm) : Option Nm := if x < 0 then none else nmAt x.toNat 1 ns
theorem plcs_mem {a x : Nat} {ns : List Nm} : x ∈ plcs a ns ↔ ∃ i s, ns[i]? = some s ∧ x = endAt a (ns.take i) := by
  induction ns generalizing a with
  | nil => simp [plcs]
  | cons y r ih =>
    simp only [plcs, List.mem_cons, ih]
    constructor
    · rintro (rfl | ⟨i, s, h1, h2⟩)
      · exact ⟨0, y, rfl, rfl⟩
      · exact ⟨i + 1, s, by simpa using h1, by simpa [endAt] using h2⟩
    · rintro ⟨i, s, h1, h2⟩
      cases i with
      | zero => exact .inl (by simpa [endAt] using h2)
      | succ i => exact .inr ⟨i, s, by simpa using h1, by simpa [endAt] using h2⟩
theorem plcs_rise {a : Nat} {ns : List Nm} : (plcs a ns).Pairwise (· < ·) := by
  induction ns generalizing a with
  | nil => exact .nil
  | cons y r ih =>
    refine .cons (fun x hx => ?_) ih
    obtain ⟨i, s, _, rfl⟩ := plcs_mem.1 hx
    have := endAt_ge (a := a + y.length + 1) (ns := r.take i)
    omega
theorem okNm_len {s : Nm} (h : okNm s = true) : 0 < s.length ∧ s.length ≤ 64 := by
  unfold okNm at h
  simp only [Bool.and_eq_true, decide_eq_true_eq] at h
  exact h.1
section
variable {pr : Prog} (hp : Sub strsFns pr) (hq : SubP strsPrims pr) {st : St}
include hp
theorem den_Add_nil (s : List UInt8) : den pr 140 [.d .np, .d (.s s)] st = some (.tup [.d (.i .i64 0), .d (.i .i64 1)], st) := by
  rw [den_fn (hp.at 9 rfl) rfl rfl, start_raw _ rfl]
  simp [F140_strs_Table_Add, eqV]
theorem den_At_nil (x : Int) : den pr 144 [.d .np, .d (.i .i64 x)] st = some (.tup [.d (.s []), .d (.i .i64 1)], st) := by
  rw [den_fn (hp.at 10 rfl) rfl rfl]
  simp [F144_strs_Table_At, eqV, start]
theorem den_Names_nil : den pr 166 [.d .np] st = some (.tup [.d (.sl 0 false []), .d (.i .i64 1)], st) := by
  rw [den_fn (hp.at 13 rfl) rfl rfl]
  simp [F166_strs_Table_Names, eqV, start]
theorem den_Bytes_nil : den pr 142 [.d .np] st = some (.tup [.d (.sl 0 false []), .d (.i .i64 1)], st) := by
  rw [den_fn (hp.at 11 rfl) rfl rfl]
  simp [F142_strs_Table_Bytes, eqV, start]
include hq
theorem den_Add_bad {p : Nat} {s : List UInt8} (hs : okNm s = false) : den pr 140 [.ptr p 0, .d (.s s)] st = some (.tup [.d (.i .i64 0), .d (.i .i64 81)], st) := by
  have h := fun st => den_isName hp hq (st := st) s
  rw [hs] at h
  rw [den_fn (hp.at 9 rfl) rfl rfl, start_raw _ rfl]
  simp [F140_strs_Table_Add, eqV, h]
theorem den_Add_old {p m tn tp : Nat} {ns : List Nm} (h : Tbl st p m tn tp ns) {s : Nm} (hs : okNm s = true) {q : Nat} (hf : findNm s 1 ns = some q) : den pr 140 [.ptr p 0, .d (.s s)] st = some (.tup [.d (.i .i64 q), .d (.i .i64 0)], st) := by
  have hn := fun st => den_isName hp hq (st := st) s
  rw [hs] at hn
  obtain ⟨vN, vP, hrow, hN, hP⟩ := h.row
  have hfe := findE_ents s ns 1
  rw [hf] at hfe
  rw [den_fn (hp.at 9 rfl) rfl rfl, start_raw _ rfl]
  simp [F140_strs_Table_Add, eqV, hn, hrow, lookV, keyOk, h.map, hfe, lookOut, zeroV]
theorem den_Add_new {p m tn tp : Nat} {ns : List Nm} (h : Tbl st p m tn tp ns) {s : Nm} (hs : okNm s = true) (hn : s ∉ ns) (hb : endAt 1 ns + s.length + 1 ≤ 1099511627776) :
    ∃ st' tn' tp', den pr 140 [.ptr p 0, .d (.s s)] st = some (.tup [.d (.i .i64 (endAt 1 ns : Nat)), .d (.i .i64 0)], st') ∧ Tbl st' p m tn' tp' (ns ++ [s]) ∧ Kp st st' (TR p m) (TT tn tp ns) ∧ (tn' = tn ∧ tp' = tp ∧ ns ≠ [] ∨ st.tips.length ≤ tn' ∧ st.tips.length ≤ tp') := by
  obtain ⟨st', tn', tp', h1, h2, h3, h4⟩ := den_putS hp hq h hs hn hb
  refine ⟨st', tn', tp', ?_, h2, h3, h4⟩
  have hk := fun st => den_isName hp hq (st := st) s
  rw [hs] at hk
  obtain ⟨vN, vP, hrow, hN, hP⟩ := h.row
  have hfe := findE_ents s ns 1
  rw [findNm_none.2 hn] at hfe
  rw [den_fn (hp.at 9 rfl) rfl rfl, start_raw _ rfl]
  simp [F140_strs_Table_Add, eqV, hk, hrow, lookV, keyOk, h.map, hfe, lookOut, zeroV, h1]
omit hq in
theorem den_At {p m tn tp : Nat} {ns : List Nm} (h : Tbl st p m tn tp ns) (x : Int) (hb : endAt 1 ns ≤ 1099511627776) :
    den pr 144 [.ptr p 0, .d (.i .i64 x)] st = some (.tup [.d (.s (if x = 0 then [] else (atI x ns).getD [])), .d (.i .i64 (if x = 0 ∨ (atI x ns).isSome then 0 else 81))], st) := by
  obtain ⟨vN, vP, hrow, hN, hP⟩ := h.row
  rw [den_fn (hp.at 10 rfl) rfl rfl]
  by_cases h0 : x = 0
  · simp [F144_strs_Table_At, eqV, start, h0]
  · have hge := endAt_ge (a := 1) (ns := ns)
    obtain ⟨s1, hs1⟩ : ∃ s1, s1 = ({ st with floor := st.heap.length, tfloor := st.tips.length } : St) := ⟨_, rfl⟩
    have hst : start F144_strs_Table_At st = s1 := by rw [hs1]; rfl
    rw [hst]
    have hrow1 : s1.row p = some [vN, vP, .map m, .d (.i .i64 (endAt 1 ns : Nat))] := by rw [hs1]; exact hrow
    obtain ⟨i, b, h1, h2, h3, h4⟩ := den_bsearch hp (st := s1) (v := vP) (xs := (plcs 1 ns).map fun (a : Nat) => (a : Int)) (by
      have := hP.c
      simpa [List.map_map, Function.comp_def] using this) (by
      rw [List.pairwise_map]
      exact plcs_rise.imp fun h => by omega) (by simp [plcs_len]; omega) x
    have hlt := row_lt hrow
    cases b with
    | true =>
      have h3 := h3 rfl
      rw [List.getElem?_map, Option.map_eq_some_iff] at h3
      obtain ⟨a, ha, hax⟩ := h3
      have hi : i < ns.length := by
        have := (List.getElem?_eq_some_iff.1 ha).1
        rwa [plcs_len] at this
      obtain ⟨s, hs⟩ : ∃ s, ns[i]? = some s := ⟨_, List.getElem?_eq_getElem hi⟩
      have ha2 := plcs_get (a := 1) hs
      rw [ha] at ha2
      obtain rfl := Option.some.inj ha2
      have hat : atI x ns = some s := by
        unfold atI
        rw [if_neg (by omega), show x.toNat = endAt 1 (ns.take i) by omega]
        exact nmAt_at hs
      obtain ⟨g1, g2⟩ := hN.get (i := i) (x := .s s) (by simp [hs]) (k := .i64)
      simp [F144_strs_Table_At, eqV, h0, hrow1, h1, g1, g2, hat]
    | false =>
      have h4 := h4 rfl
      have hat : atI x ns = none := by
        unfold atI
        split
        · rfl
        · rename_i hx
          cases hc : nmAt x.toNat 1 ns with
          | none => rfl
          | some s =>
            exfalso
            obtain ⟨i, h5, h6⟩ := nmAt_some hc
            refine h4 (List.mem_map.2 ⟨x.toNat, plcs_mem.2 ⟨i, s, h5, h6⟩, by omega⟩)
      simp [F144_strs_Table_At, eqV, h0, hrow1, h1, hat]
omit hq in
theorem den_cloneS {v : V} {t : Nat} {ns : List Nm} (h : NL st v t (ns.map .s)) (hb : ns.length ≤ 1099511627776) (st2 : St) : den pr 173 [v] st2 = some (nmsV ns, st2) := by
  rcases h with ⟨h0, rfl⟩ | ⟨h0, rfl, _, _⟩
  · have : ns = [] := by simpa using h0
    subst this
    exact den_shut (hp.at 14 rfl) rfl rfl (by simp; rfl) (by simp [F173_slices_Clone_string_string, eqV, nmsV])
  · have hne : ns ≠ [] := fun e => h0 (by simp [e])
    have hl : ns.length ≤ 140737488355328 := by omega
    have hl2 : ns.length * 16 ≤ 140737488355328 := by omega
    have hpos : 0 < ns.length := List.length_pos_iff.2 hne
    refine den_shut (hp.at 14 rfl) rfl rfl (by simp; rfl) ?_
    simp [F173_slices_Clone_string_string, eqV, fillV, reps, ofDs, appV, vw, hl, hl2, nmsV, hne]
omit hq in
theorem den_Names {p m tn tp : Nat} {ns : List Nm} (h : Tbl st p m tn tp ns) (hb : endAt 1 ns ≤ 1099511627776) : den pr 166 [.ptr p 0] st = some (.tup [nmsV ns, .d (.i .i64 0)], st) := by
  obtain ⟨vN, vP, hrow, hN, hP⟩ := h.row
  have hge := endAt_ge (a := 1) (ns := ns)
  have hc := fun st2 => den_cloneS hp hN (by omega) st2
  rw [den_fn (hp.at 13 rfl) rfl rfl]
  obtain ⟨s1, hs1⟩ : ∃ s1, s1 = ({ st with floor := st.heap.length, tfloor := st.tips.length } : St) := ⟨_, rfl⟩
  have hst : start F166_strs_Table_Names st = s1 := by rw [hs1]; rfl
  rw [hst]
  have hrow1 : s1.row p = some [vN, vP, .map m, .d (.i .i64 (endAt 1 ns : Nat))] := by rw [hs1]; exact hrow
  simp [F166_strs_Table_Names, eqV, hrow1, hc]
  simp [nmsV]
omit hq in
theorem den_Bytes {p m tn tp : Nat} {ns : List Nm} (h : Tbl st p m tn tp ns) (hb : endAt 1 ns ≤ 1099511627776) : den pr 142 [.ptr p 0] st = some (.tup [bsl true (tabB ns), .d (.i .i64 0)], st) := by
  obtain ⟨vN, vP, hrow, hN, hP⟩ := h.row
  have hge := endAt_ge (a := 1) (ns := ns)
  have hlen := hN.len
  rw [List.length_map] at hlen
  have hr1 : room 1 (.d (.i .i64 (1 : Int))) = some 1 := by simp [room]
  have hr : room 1 (.d (.i .i64 (endAt 1 ns : Nat))) = some (endAt 1 ns) := by
    simp [room]
    omega
  have hle : 1 ≤ endAt 1 ns := by omega
  rw [den_fn (hp.at 11 rfl) rfl rfl]
  obtain ⟨s1, hs1⟩ : ∃ s1, s1 = ({ st with floor := st.heap.length, tfloor := st.tips.length } : St) := ⟨_, rfl⟩
  have hst : start F142_strs_Table_Bytes st = s1 := by rw [hs1]; rfl
  rw [hst]
  have hrow1 : s1.row p = some [vN, vP, .map m, .d (.i .i64 (endAt 1 ns : Nat))] := by rw [hs1]; exact hrow
  have ht1 : s1.tips = st.tips := by rw [hs1]
  have hf1 : s1.tfloor = st.tips.length := by rw [hs1]
  simp [F142_strs_Table_Bytes, eqV, hrow1, hr1, hr, hle, hlen]
  generalize hL : cden pr (.loop _ _ _) _ _ = o
  obtain ⟨r, rfl, hQ⟩ : ∃ r, o = some r ∧ ∃ e s, r = (.exit 0, e, s) ∧ e.get 4 = some (.own 1 (endAt 1 ns) true (byteCells (tabB ns)) st.tips.length) := by
    rw [← hL]
    refine loop_n ns.length (fun i => [(4, .own 1 (endAt 1 (ns.take i)) true (byteCells (tabB (ns.take i))) st.tips.length), (17, vN), (18, .d (.i .i64 ns.length)), (19, .d (.i .i64 i))]) (fun i => { s1 with tips := s1.tips ++ [endAt 1 (ns.take i)] }) ?_ (by simp [ht1, tabB, byteCells, endAt, reps]) (by simp [endAt])
    intro i hi
    rcases Nat.lt_or_ge i ns.length with hlt | hge2
    · obtain ⟨s, hs⟩ : ∃ s, ns[i]? = some s := ⟨_, List.getElem?_eq_getElem hlt⟩
      obtain ⟨g1, g2⟩ := hN.get (i := i) (x := .s s) (by simp [hs]) (k := .i64)
      have hok := okNm_len (h.ok s (List.mem_of_getElem? hs))
      have h1 : IntKind.wrap .i64 ((i : Int) + 1) = i + 1 := wrap_i64 (by omega) (by omega)
      have htk : ns.take (i + 1) = ns.take i ++ [s] := by rw [List.take_add_one, hs]; rfl
      have hsm : endAt 1 (ns.take (i + 1)) ≤ endAt 1 ns := by
        conv => rhs; rw [← List.take_append_drop (i + 1) ns, endAt_app]
        exact Nat.le_trans (Nat.le_add_right _ _) endAt_ge
      have he : endAt 1 (ns.take (i + 1)) = endAt 1 (ns.take i) + s.length + 1 := by rw [htk, endAt_snoc]
      have hcl : (tabB (ns.take i)).length = endAt 1 (ns.take i) := tabB_len
      obtain ⟨E, hE⟩ : ∃ E, E = endAt 1 (ns.take i) := ⟨_, rfl⟩
      rw [← hE] at he hcl
      have hb1 : E + s.length ≤ 140737488355328 := by omega
      have hb2 : E + (s.length + 1) ≤ 140737488355328 := by omega
      have ht2 : byteCells (tabB (ns.take (i + 1))) = byteCells (tabB (ns.take i)) ++ (byteCells s ++ [.i .u8 0]) := by rw [htk, tabB_snoc, byteCells_app, byteCells_app]; rfl
      simp [F142_strs_Table_Bytes_b0, hlt, g1, g2, ← hE, appV, vw, byteCells_len, hcl, ht1, hf1, hb1, hb2, fillV, lay, reps, ofDs, he, h1, ht2, Nat.add_assoc]
    · have : i = ns.length := by omega
      subst this
      simp [F142_strs_Table_Bytes_b0]
  obtain ⟨e, s, rfl, h4⟩ := hQ
  have hl : endAt 1 ns = (tabB ns).length := tabB_len.symm
  simp [h4, bsl, hl]
end
end Go.Sh
