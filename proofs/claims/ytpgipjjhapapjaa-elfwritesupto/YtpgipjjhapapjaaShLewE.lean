/- The document's Write of sections: what it answers. -/
import Derived.Test.YtpgipjjhapapjaaShLewD
set_option linter.unusedVariables false
set_option linter.unusedSimpArgs false
set_option linter.unusedSectionVars false
namespace Go.Sh
theorem BR.esc {st : St} {w : V} {L : List UInt8} {id t : Nat} (h : BR st w L id) : esc1 st 0 t w = some (bsl true L) := by
  obtain ⟨cap, tail, rfl, h2, h3, h4⟩ := h
  have hl : L.length ≤ (ofDs (byteCells L) ++ tail).length := by simp [ofDs, byteCells]
  have ht : (ofDs (byteCells L) ++ tail).take L.length = ofDs (byteCells L) := List.take_left' (by simp [ofDs, byteCells])
  have hd : toDs (ofDs (byteCells L)) = some (byteCells L) := toDs_of _
  have hc : cellsAt st id 0 (L.length * 1) = some (byteCells L) := by
    unfold cellsAt
    rw [h3]
    simp only
    rw [if_pos (by omega), List.drop_zero, Nat.mul_one, ht, hd]
  simp only [esc1, escC]
  rw [if_neg (by omega), hc]
  rfl
def fwE (f : Nat) : Bool := f == 358
section
variable {pr : Prog} (hr : Sub rwFns pr) (h8 : Sub nm8Fns pr)
include hr h8
theorem callW_Write9r {v : V} {ss : List Sec} {st : St} (hv : SlC 8 v (ss.map Sec.cells)) (hn : ss.length ≤ 1099511627776) (hsz : sumR ss ≤ 549755813888) (hnm : ∀ x ∈ ss, x.nm.length ≤ 140737488351232) :
    CallW pr 352 [v] st fun r s => s = st ∧ ((good ss ∧ r = .tup [bsl true (fileB ss), .d (.i .i64 0)]) ∨ (¬ good ss ∧ r = .tup [.d (.sl 0 false []), badV])) := by
  obtain ⟨u, hcl, hu⟩ := hv.close
  refine .run0 fwE (hr.at 0 rfl) (by simp [hcl]; rfl) rfl rfl (codeC_of ?_)
  obtain ⟨Q, hQ⟩ : ∃ Q : V → Prop, ∀ z, Q z ↔ ((good ss ∧ z = .tup [bsl true (fileB ss), .d (.i .i64 0)]) ∨ (¬ good ss ∧ z = .tup [.d (.sl 0 false []), badV])) := ⟨_, fun _ => Iff.rfl⟩
  simp only [← hQ]
  have hlen := hu.len
  rw [List.length_map] at hlen
  obtain ⟨b, hall, hb⟩ := den_all9 hr h8 (st := s0 [] [] 0 0) hu.c hn hnm
  cases b with
  | false =>
    have hng : ¬ good ss := fun h => by simp at hb; exact hb h
    simp [F352_spindleref9_Write, hall]
    exact (hQ _).2 (.inr ⟨hng, rfl⟩)
  | true =>
  have hg : good ss := hb.1 rfl
  have h16 := hg.1
  obtain ⟨s1, hs1⟩ : ∃ s1, s1 = (s0 [] [] 0 0).push (.row []) := ⟨_, rfl⟩
  have hf1 : s1.floor = 0 := by rw [hs1]; rfl
  have htf1 : s1.tfloor = 0 := by rw [hs1]; rfl
  have hr1 : s1.row 0 = some [] := by rw [hs1]; rfl
  have hs1' : s0 [.row (ofDs [])] [] 0 0 = s1 := by rw [hs1]; rfl
  have htp1 : s1.tips = [] := by rw [hs1]; rfl
  simp [F352_spindleref9_Write, hall, fillV, reps, partsV, hs1', fwE]
  have hvw : vwV 8 s1 u = some (ss.length, ofDs (ss.map Sec.cells).flatten) := by
    obtain ⟨_, nz, rfl⟩ := hu
    simp [vwV, vw]
  refine appW_K (cells := []) (tail := []) hf1 hr1 rfl rfl (Nat.le_refl _) hvw (by rw [ofDs, List.length_map, secC_len]) rfl (by omega) (by omega) fun s2 j2 c2 t2 hr2 ht2 hc2 k2 hj2 => ?_
  rw [Nat.zero_add, List.nil_append] at *
  simp [fillV, reps, partsV, lay, ofDs, toDs, toD]
  have hvw5 : vwV 8 s2 (.d (.sl 1 true (ownS [] false).cells)) = some (1, ofDs (ownS [] false).cells) := by simp [vwV, vw]
  refine appW_K (cells := ofDs (ss.map Sec.cells).flatten) (tail := t2) (k2.floor.trans hf1) hr2 (by rw [ofDs, List.length_map, secC_len]) ht2 hc2 hvw5 rfl rfl (by omega) (by omega) fun s3 j c3 t3 hr3 ht3 hc3 k3 hj3 => ?_
  obtain ⟨N, hN⟩ : ∃ N, N = ss.length + 1 := ⟨_, rfl⟩
  rw [← hN] at ht3 hc3 ⊢
  have hr3' : s3.row j = some (ofDs ((ss ++ [ownS [] false]).map Sec.cells).flatten ++ t3) := by
    rw [hr3, List.map_append, List.flatten_append, ofDs_ap9]
    simp
  have hf3 : s3.floor = 0 := k3.floor.trans (k2.floor.trans hf1)
  have htf3 : s3.tfloor = 0 := k3.tfloor.trans (k2.tfloor.trans htf1)
  obtain ⟨a, ha⟩ : ∃ a, a = s3.tips.length := ⟨_, rfl⟩
  obtain ⟨s4, hs4⟩ : ∃ s4 : St, s4 = { s3 with tips := s3.tips ++ [0] ++ [0] } := ⟨_, rfl⟩
  have hia : ∀ i : Nat, i < N → iaddrV 8 (.rsl 8 j 0 N c3) (.d (.i .i64 (i : Int))) = some (.ptr j (i * 8)) := fun i hi => by rw [iaddr_row hi, Nat.zero_add]
  have hal : (ss ++ [ownS [] false]).length = N := by simp [hN]
  have hokA : ∀ x ∈ ss ++ [ownS [] false], okNm x.nm = true := fun x hx => by
    rw [List.mem_append, List.mem_singleton] at hx
    rcases hx with hx | rfl
    · have := hg.2 x hx
      unfold mayS at this
      simp only [Bool.and_eq_true] at this
      exact this.1.1.1.1.1.1
    · decide
  obtain ⟨e5, n1, n2, n3, n4, n5⟩ := rw_names hr (st := s4) (a := a) (b := a + 1) (j := j) (u := u) (allv := .rsl 8 j 0 N c3) (all := ss ++ [ownS [] false]) (tail := t3) (by omega) (by rw [hs4]; exact htf3) (by rw [hs4, ha]; simp) (by rw [hs4, ha]; simp) (by omega) (by rw [hal]; rfl) (by rw [hs4]; exact hr3') (by rw [hal]; exact hia) hokA
  have hnmT : nmsOf (ss ++ [ownS [] false]) = tabOf ss := nmsOf_snoc _ _
  rw [hnmT, hal] at n1
  rw [hnmT] at n4 n5
  have hend := nmsOf_end (ss ++ [ownS [] false]) hokA
  rw [hnmT, hal] at hend
  obtain ⟨s5, hs5⟩ : ∃ s5, s5 = (s4.tk a (tabOf ss).length).tk (a + 1) N := ⟨_, rfl⟩
  rw [← hs5] at n1
  have hf5 : s5.floor = 0 := by rw [hs5, hs4]; exact hf3
  have htf5 : s5.tfloor = 0 := by rw [hs5, hs4]; exact htf3
  have hr5 : s5.row j = some (ofDs ((ss ++ [ownS [] false]).map Sec.cells).flatten ++ t3) := by rw [hs5, hs4]; exact hr3'
  obtain ⟨oN, hoN⟩ : ∃ o, o = ownN a (tabOf ss) := ⟨_, rfl⟩
  have htab := fun st => den_table9 hr (st := st) (ownN_c hr a (tabOf ss)) (by omega)
  rw [← hoN] at htab n4
  have hoN0 : V.own 1 0 false [] a = ownN a [] := rfl
  have hoI0 : V.own 1 0 false [] (a + 1) = ownI (a + 1) [] := rfl
  have hi3 := hia ss.length (by omega)
  have hle5 : ss.length * 8 + 7 + 1 ≤ (ofDs ((ss ++ [ownS [] false]).map Sec.cells).flatten ++ t3).length := by
    rw [List.length_append, ofDs, List.length_map, secC_len]
    simp
    omega
  have hll := last_lay ss (tabB (tabOf ss)) t3
  obtain ⟨R5, hR5⟩ : ∃ R5, R5 = ofDs ((ss ++ [ownS [] false]).map Sec.cells).flatten ++ t3 := ⟨_, rfl⟩
  rw [← hR5] at hr5 hle5 hll
  obtain ⟨s6, hs6⟩ : ∃ s6, s6 = s5.put j (ofDs ((allOf ss).map Sec.cells).flatten ++ t3) := ⟨_, rfl⟩
  have hsv : storeV 1 s5 (.ptr j (ss.length * 8 + 7)) (bsl true (tabB (tabOf ss))) = some s6 := by
    simp only [storeV, hr5, bsl_ok1]
    rw [if_pos ⟨trivial, rfl, hle5⟩, setBlk_put hf5, show (bsl true (tabB (tabOf ss))).cs = [bsl true (tabB (tabOf ss))] from rfl, hll, hs6]
    rfl
  have hr6 : s6.row j = some (ofDs ((allOf ss).map Sec.cells).flatten ++ t3) := by rw [hs6]; exact row_put_eq (row_lt hr5)
  obtain ⟨Z, hZ⟩ : ∃ Z, Z = List.replicate 64 (0 : UInt8) := ⟨_, rfl⟩
  have hZl : Z.length = 64 := by rw [hZ, List.length_replicate]
  have hZc : reps 64 [D.i .u8 0] = byteCells Z := by rw [zerosB, hZ]
  have r64 : room 1 (.d (.i .i64 (64 : Int))) = some 64 := by simp [room]
  obtain ⟨s7, hs7⟩ : ∃ s7 : St, s7 = { s6.push (.row (ofDs (byteCells Z))) with tips := s6.tips ++ [64] } := ⟨_, rfl⟩
  have hk67 : Kp s6 s7 (fun _ => False) (fun _ => False) := by
    rw [hs7]
    have k1 : Kp s6 (s6.push (.row (ofDs (byteCells Z)))) (fun _ => False) (fun _ => False) := .push _
    exact ⟨k1.floor, k1.tfloor, k1.hlen, by simp, k1.heap, fun t ht _ => by simp only; rw [List.getElem?_append_left ht]⟩
  have hr7 : s7.row j = some (ofDs ((allOf ss).map Sec.cells).flatten ++ t3) := (row_of_heap (hk67.heap j (row_lt hr6) fun h => h)).trans hr6
  have hf7 : s7.floor = 0 := hk67.floor.trans (by rw [hs6]; exact hf5)
  have htf7 : s7.tfloor = 0 := hk67.tfloor.trans (by rw [hs6]; exact htf5)
  have hB7 : BR s7 (.rsl 1 s6.heap.length 0 64 64) Z s6.heap.length := ⟨64, [], by rw [hZl], by omega, by rw [hs7]; simp only [List.append_nil]; exact row_push_new rfl, by rw [hZl]; rfl⟩
  have hct : s7.tips[s6.tips.length]? = some 64 := by rw [hs7]; simp
  have hjl6 := row_lt hr6
  have hNa : (allOf ss).length = N := by simp [allOf, hN]
  have hend' : (tabB (tabOf ss)).length ≤ 2048 := by rw [tabB_len]; omega
  have hszA : sumR (allOf ss) ≤ 1099511627000 := by
    rw [allOf, sumR_snoc]
    have := r8_lt (ownS (tabB (tabOf ss)) true).data.length
    have e : (ownS (tabB (tabOf ss)) true).data.length = (tabB (tabOf ss)).length := rfl
    omega
  have hmyA : ∀ x ∈ allOf ss, mayS x = true := fun x hx => by
    rw [allOf, List.mem_append] at hx
    rcases hx with hx | hx
    · exact hg.2 x hx
    · obtain rfl : x = _ := by simpa using hx
      exact ownS_may _ _
  obtain ⟨plv, hplv⟩ : ∃ plv, plv = ownI (a + 1) ((ss ++ [ownS [] false]).map fun x => (findNm x.nm 1 (tabOf ss)).getD 0) := ⟨_, rfl⟩
  rw [← hplv] at n5
  have hpl : ∀ (i : Nat) x, (allOf ss)[i]? = some x → ∃ p, iaddrV 1 plv (.d (.i .i64 (i : Int))) = some p ∧ ∀ s, loadV 1 false s p = some (.d (.i .i64 (plOf ss x : Nat))) := by
    intro i x hx
    have hil : i < N := by rw [← hNa]; exact (List.getElem?_eq_some_iff.1 hx).1
    obtain ⟨pls, hpls⟩ : ∃ pls, pls = (ss ++ [ownS [] false]).map fun x => (findNm x.nm 1 (tabOf ss)).getD 0 := ⟨_, rfl⟩
    have hpls2 : pls = (allOf ss).map (plOf ss) := by rw [hpls, allOf, List.map_append, List.map_append]; rfl
    have hpl' : pls.length = N := by rw [hpls2, List.length_map, hNa]
    have hpi : pls[i]? = some (plOf ss x) := by rw [hpls2, List.getElem?_map, hx]; rfl
    rw [hplv, ← hpls]
    refine ⟨.ep ((intC pls).drop i), ?_, fun s => ?_⟩
    · have : (i : Int) < pls.length := by omega
      simp [iaddrV, intV, ownI, this]
    · have e : (intC pls).drop i = .i .i64 (plOf ss x : Nat) :: (intC pls).drop (i + 1) := by
        have hi' : i < (intC pls).length := by simp [intC]; omega
        rw [List.drop_eq_getElem_cons hi']
        simp only [intC, List.getElem_map]
        rw [(List.getElem?_eq_some_iff.1 hpi).2]
      rw [e]
      simp [loadV, mkV, ofDs]
  have hs3e : ∀ l : List Nat, ({ heap := s3.heap, tips := l, floor := s3.floor, tfloor := s3.tfloor } : St) = { s3 with tips := l } := fun _ => rfl
  have hs4' : ({ heap := s3.heap, tips := s3.tips ++ [0, 0], floor := s3.floor, tfloor := s3.tfloor } : St) = s4 := by rw [hs4]; simp
  simp [← ha, hs4', hoN0, hoI0]
  refine CodeW.of_ex ⟨_, n1, ?_⟩
  have hl5 : lenV (.rsl 8 j 0 N c3) = some N := rfl
  have hown : V.own 1 64 true (byteCells Z) s6.tips.length = ownT s6.tips.length Z := by simp [ownT, hZl]
  have hs7' : ({ heap := s6.heap ++ [some (.row (ofDs (byteCells Z)))], tips := s6.tips ++ [64], floor := s6.floor, tfloor := s6.tfloor } : St) = s7 := by rw [hs7]; rfl
  simp [n2, n3, n4, n5, hlen, htab, hi3, hsv, r64, hZc, hown, St.push, hs7']
  refine rw_bodies hr (st := s7) (c := s6.tips.length) (j := j) (id0 := s6.heap.length) (u := u) (allv := .rsl 8 j 0 N c3) (out := .rsl 1 s6.heap.length 0 64 64) (plv := plv) (all := allOf ss) (tail := t3) (pl := plOf ss) (Z := Z) hZl hf7 htf7 hct (by rw [hNa]; omega) (by rw [hNa]; rfl) hr7 (by rw [hNa]; exact hia) hmyA hszA hpl hB7 (by omega) ?_
  rintro e8 s8 w8 id8 g0 g10 g11 ⟨L8, hB8, hL8⟩ ht8 hK8
  have hf8 : s8.floor = 0 := hK8.floor.trans hf7
  have hPl : (Z ++ bodyB (allOf ss)).length = 64 + sumR (allOf ss) := by rw [List.length_append, bodyB_len, hZl]
  have hL8l : L8.length ≤ 64 + sumR (allOf ss) := by
    have h1 := padO_len L8
    rw [hL8, hPl] at h1
    have := r8_ge L8.length
    omega
  simp [g0, g10, g11, fwE]
  refine (callW_padded hr (st := s8) (v := w8) (L := L8) (id := id8) hB8 hf8 (by omega)).mono ?_
  rintro w9 s9 ⟨id9, hB9, hK9, hid9⟩
  have hB9 : BR s9 w9 (padO L8) id9 := hB9
  rw [hL8] at hB9
  have hw9l : lenV w9 = some (64 + sumR (allOf ss)) := by rw [hB9.len, hPl]
  have hhd := fun st => den_head9 hr (st := st) (c := ss.length) (a := 64 + sumR (allOf ss)) (by omega) (by omega)
  have hwi : ((64 + sumR (allOf ss) : Nat) : Int) = 64 + (sumR (allOf ss) : Nat) := by omega
  rw [hwi] at hhd
  obtain ⟨F, hF⟩ : ∃ F, F = laidF (hdrF (64 + sumR (allOf ss)) (ss.length + 2)) := ⟨_, rfl⟩
  rw [← hF] at hhd
  have hFl : F.length = 64 := by rw [hF, laidF_len]; rfl
  obtain ⟨e10, s10, m1, m2, m3, m4, m5⟩ := rw_head (pr := pr) (st := s9) (w := w9) (rv := ownT s6.tips.length (Z ++ entB (plOf ss) 64 (allOf ss))) (A := Z ++ bodyB (allOf ss)) (F := F) (id := id9) (nz := true) hB9 (hK9.floor.trans hf8) (by omega) (by omega) hFl
  have hdrop : (Z ++ bodyB (allOf ss)).drop 64 = bodyB (allOf ss) := List.drop_left' hZl
  rw [hdrop] at m4
  simp [hlen, hw9l, hhd]
  refine CodeW.of_ex ⟨_, m1, ?_⟩
  simp [m2, m3]
  refine m4.app (m5.floor.trans (hK9.floor.trans hf8)) vwV_own1 (by rw [List.length_append, bodyB_len, hFl, List.length_append, entB_len, hZl, hNa]; omega) ?_
  intro s11 w11 id11 hB11 hK11 hid11
  have hok11 : w11.ok1 = true := by obtain ⟨_, _, rfl, _⟩ := hB11; rfl
  have hes := hB11.esc (t := 0)
  have hfile : F ++ bodyB (allOf ss) ++ (Z ++ entB (plOf ss) 64 (allOf ss)) = fileB ss := by rw [hF, hZ]; rfl
  rw [hfile] at hes
  simp [hok11, esc, esc1s, hes]
  exact (hQ _).2 (.inl ⟨hg, rfl⟩)
end
end Go.Sh
