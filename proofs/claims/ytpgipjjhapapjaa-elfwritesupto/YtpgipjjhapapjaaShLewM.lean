/- The law ElfWrites on shadow runs. -/
import Derived.Test.YtpgipjjhapapjaaShLewL
set_option linter.unusedVariables false
set_option linter.unusedSimpArgs false
set_option linter.unusedSectionVars false
namespace Go.Sh
section
variable {pr : Prog} (hp : Sub elfFns pr) (hs : Sub strsFns pr) (hq : SubP strsPrims pr) (hr : Sub ref9bFns pr) (hw : Sub aw9Fns pr) (hrw : Sub rwFns pr) (h8 : Sub nm8Fns pr) (hk : Sub rkFns pr) (hd : Sub lendFns pr) (hb : Sub bookFns pr) (he : Sub ewFns pr) (hA : AwkE pr)
include hp hs hq hr hw hrw h8 hk hd hb he
/-- A book's, when what was written has been handed out. -/
theorem EW.own {s s' : St} {p q n : Nat} {b b' : Bk} {k : Rk} {j : Option Nat} (bk : BkI s p b) (rk : RkI s q k) (off : ∀ a r, k.lab q a = some r → (∀ c, b.lab p c ≠ some r) ∧ ∀ v, v ∈ b.kv ∨ v ∈ b.wv → foot v ≠ some r) (hj : ∀ a r, k.lab q a = some r → j ≠ some r) (hO : OW s s' p b b' n j) : EW s' p q b' k := by
  have hA : ∀ a r, k.lab q a = some r → ¬ ((∃ a, b.lab p a = some r) ∨ j = some r ∨ s.heap.length ≤ r) := fun a r e h => by
    rcases h with ⟨c, h⟩ | h | h
    · exact (off a r e).1 c h
    · exact hj a r e h
    · have := lab_lt rk e; omega
  refine ⟨hO.bk, rk.gr hO.gr.kr hA, hO.frl, fun a r e => ⟨fun c e2 => hA a r e (hO.lo c r e2), fun v hv e2 => ?_⟩⟩
  rcases hO.vo v hv r e2 with (⟨v0, h0, h1⟩ | h | h) | h
  · exact (off a r e).2 v0 h0 h1
  · exact hA a r e (.inl h)
  · exact hA a r e (.inr (.inr h))
  · exact hj a r e h
theorem callW_written {s : St} {p q : Nat} {b : Bk} {k : Rk} (h : EW s p q b k) {u : V} {ss : List Sec} (hu : SlD 8 u (ss.map Sec.cells)) (hn : ss.length ≤ 1048576) (hsz : sumR ss ≤ 16777216) (hnm : ∀ x ∈ ss, x.nm.length ≤ 140737488351232) (hin : ∀ x ∈ ss, Sin x) (hdl : ∀ x ∈ ss, x.data.length ≤ 8589934592) (hkl : b.kv.length ≤ 899990000) (ht : b.total ≤ 4611680000000000000) :
    CallW pr 350 [u, .ptr q 0, .ptr p 0] s fun v s' => v = .d (.b true) ∧ ∃ b' k', EW s' p q b' k' ∧ b'.kv.length ≤ b.kv.length + 36 ∧ b'.total ≤ b.total + 67108864 := by
  refine .run wEw (he.at 0 rfl) rfl ?_
  rw [start_raw _ rfl]
  refine codeC_of ?_
  have hlen := hu.len
  rw [List.length_map] at hlen
  have hwl := wOut_len hsz
  have hnum := fun x st => den_num9a hw (st := st) x
  obtain ⟨nzw, hnzw⟩ : ∃ z, z = (wOut ss).1 := ⟨_, rfl⟩
  obtain ⟨L, hL⟩ : ∃ z, z = (wOut ss).2.1 := ⟨_, rfl⟩
  obtain ⟨kz, hkz⟩ : ∃ z, z = (wOut ss).2.2 := ⟨_, rfl⟩
  rw [← hL] at hwl
  simp [F350_spindlelaw9_written, wEw]
  refine (callW_want hrw h8 (st := s) hu hn hsz hnm).mono ?_
  rintro v s' ⟨rfl, rfl⟩
  rw [← hnzw, ← hL, ← hkz]
  simp [wEw]
  -- the first one
  refine (callW_rlend hk hd h.rk hu hn hdl).mono ?_
  rintro v s1 ⟨k1, r1, rfl, hl1, hF1⟩
  obtain ⟨bk1, off1⟩ := h.off2 hF1
  simp [wEw]
  refine (callW_gotW hp hs hq hl1 hn hsz hin k1.nL).mono ?_
  rw [← hL, ← hkz]
  rintro v s2 ⟨got, j, rfl, hg2, g2, hj2⟩
  have bk2 : BkI s2 p b := bk1.kr g2.kr (fun _ _ _ e => e) fun _ _ _ _ e => e
  have hl2 : LentK s2 q k1 ss r1 := hl1.kr g2.kr fun _ _ _ e => e
  simp [wEw]
  refine (callW_rback hk hd hr hl2 hu hn hdl).mono ?_
  rintro v s3 ⟨rfl, rk3, hF3⟩
  have bk3 : BkI s3 p b := bk2.kr hF3.1 (fun a r e ⟨c, e2⟩ => (off1 c r e2).1 a e) fun v hv r e ⟨c, e2⟩ => (off1 c r e2).2 v hv e
  have hjk : ∀ a r, k1.lab q a = some r → j ≠ some r := fun a r e e2 => by
    have := lab_lt hl1.rk e
    have := hj2 r e2
    omega
  have hg3 : LR s3 1 got L.length (ofDs (byteCells L)) j := hg2.row fun z hz => hF3.1.keep z (hg2.lt hz) fun ⟨a, e⟩ => hjk a z e hz
  simp [wEw, hnum]
  refine (callW_sameE he (nz := nzw) hg3.byt.1).mono ?_
  rintro v s' ⟨rfl, rfl⟩
  simp [wEw, hlen]
  have hjb : ∀ r, j = some r → (∀ a, b.lab p a ≠ some r) ∧ ∀ v, v ∈ b.kv ∨ v ∈ b.wv → foot v ≠ some r := by
    intro r hr
    have := hj2 r hr
    refine ⟨fun a e => ?_, fun v hv e => ?_⟩
    · have := bk1.lablt a r e; omega
    · obtain ⟨L, hb'⟩ := bk1.vbyt9 hv
      have := hb'.lt e; omega
  refine callW_Own hb bk3 hg3 hjb (by omega) _ h.frl (by omega) (by omega) ?_
  intro s4 b4 hO4
  have ew4 : EW s4 p q b4 k1 := EW.own hp hs hq hr hw hrw h8 hk hd hb he bk3 rk3 off1 hjk hO4
  simp [wEw]
  -- the second one
  refine (callW_rlend hk hd ew4.rk hu hn hdl).mono ?_
  rintro v s5 ⟨k5, r5, rfl, hl5, hF5⟩
  obtain ⟨bk5, off5⟩ := ew4.off2 hF5
  simp [wEw]
  refine (callW_gotW hp hs hq hl5 hn hsz hin k5.nL).mono ?_
  rw [← hL, ← hkz]
  rintro v s6 ⟨got6, j6, rfl, hg6, g6, hj6⟩
  have bk6 : BkI s6 p b4 := bk5.kr g6.kr (fun _ _ _ e => e) fun _ _ _ _ e => e
  have hl6 : LentK s6 q k5 ss r5 := hl5.kr g6.kr fun _ _ _ e => e
  simp [wEw]
  refine (callW_rback hk hd hr hl6 hu hn hdl).mono ?_
  rintro v s7 ⟨rfl, rk7, hF7⟩
  have bk7 : BkI s7 p b4 := bk6.kr hF7.1 (fun a r e ⟨c, e2⟩ => (off5 c r e2).1 a e) fun v hv r e ⟨c, e2⟩ => (off5 c r e2).2 v hv e
  have hjk7 : ∀ a r, k5.lab q a = some r → j6 ≠ some r := fun a r e e2 => by
    have := lab_lt hl5.rk e
    have := hj6 r e2
    omega
  have hg7 : LR s7 1 got6 L.length (ofDs (byteCells L)) j6 := hg6.row fun z hz => hF7.1.keep z (hg6.lt hz) fun ⟨a, e⟩ => hjk7 a z e hz
  simp [wEw, hnum]
  refine (callW_sameE he (nz := nzw) hg7.byt.1).mono ?_
  rintro v s' ⟨rfl, rfl⟩
  have hjb7 : ∀ r, j6 = some r → (∀ a, b4.lab p a ≠ some r) ∧ ∀ v, v ∈ b4.kv ∨ v ∈ b4.wv → foot v ≠ some r := by
    intro r hr
    have := hj6 r hr
    refine ⟨fun a e => ?_, fun v hv e => ?_⟩
    · have := bk5.lablt a r e; omega
    · obtain ⟨L, hb'⟩ := bk5.vbyt9 hv
      have := hb'.lt e; omega
  have hkl4 := hO4.kl
  have ht4 := hO4.total
  simp [wEw, hlen]
  refine callW_Own hb bk7 hg7 hjb7 (by omega) _ ew4.frl (by omega) (by omega) ?_
  intro s8 b8 hO8
  have ew8 : EW s8 p q b8 k5 := EW.own hp hs hq hr hw hrw h8 hk hd hb he bk7 rk7 off5 hjk7 hO8
  have hholds := den_Holds hb ew8.bk
  have hkl8 := hO8.kl
  have ht8 := hO8.total
  simp [wEw, hholds, FinW]
  exact ⟨b8, ⟨k5, ew8⟩, by omega, by omega⟩
include hA in
theorem law_ElfWrites {ls : List (Bool × List Sec)} {u : V} (hu : SlD 1 u (ls.map fun x => [D.sl x.2.length x.1 (x.2.map Sec.cells).flatten])) (hN : ls.length ≤ 1048576) (hel : ∀ x ∈ ls, x.2.length ≤ 1048576 ∧ sumR x.2 ≤ 16777216 ∧ ∀ y ∈ x.2, y.nm.length ≤ 140737488351232 ∧ Sin y ∧ y.data.length ≤ 8589934592) {st : St} :
    CallW pr 351 [u] st fun v s => s = st ∧ v = .d (.b true) := by
  obtain ⟨h1, nz, hun⟩ := id hu
  refine .run0 wEw (he.at 1 rfl) (show closeA [u] = some [u] by rw [hun]; rfl) rfl rfl (codeC_of ?_)
  have hlen := hu.len
  rw [List.length_map] at hlen
  simp [F351_spindlelaw9_ElfWrites, wEw]
  refine (callW_awake9a hp hs hq hr hw hA).mono ?_
  rintro r s ⟨rfl, rfl⟩
  simp [wEw, ofDs, fillV, lay]
  refine loopW_j wEw (fun n e s => ∃ i b k, i ≤ ls.length ∧ n = ls.length - i ∧ e = [(0, u), (3, .ptr 0 0), (4, .ptr 1 0), (5, .d (.i .i64 i))] ∧ EW s 1 0 b k ∧ b.kv.length ≤ 36 * i ∧ b.total ≤ 67108864 * i) ?_ (n := ls.length) ?_
  rotate_left
  · refine ⟨0, ⟨0, 0, .d (.sl 0 false []), .d (.sl 0 false []), .d (.sl 0 false []), .d (.sl 0 false []), .d (.sl 0 false []), none, none, none, none, none, [], [], [], []⟩, ⟨.d (.sl 0 false []), .d (.sl 0 false []), 0, none, none, []⟩, Nat.zero_le _, rfl, by simp, ⟨⟨rfl, rfl, .nil _ _, .nil _ _, .nil _ _, .nil _ _, .nil _ _, fun x hx => (List.not_mem_nil hx).elim, fun i k w hk => by simp at hk, ?_, fun v hv => by simp at hv, ⟨by simp, by simp⟩, fun x hx => (List.not_mem_nil hx).elim, by simp⟩, ⟨rfl, rfl, .inl ⟨rfl, rfl, rfl⟩, .nil _ _, fun x hx => (List.not_mem_nil hx).elim, ?_, by simp⟩, by simp, ?_⟩, by simp, by simp⟩
    · intro a c i ha hc
      have key : ∀ a i, Bk.lab ⟨0, 0, .d (.sl 0 false []), .d (.sl 0 false []), .d (.sl 0 false []), .d (.sl 0 false []), .d (.sl 0 false []), none, none, none, none, none, [], [], [], []⟩ 1 a = some i → a = 0 := by
        intro a i h
        match a, h with
        | 0, _ => rfl
        | 1, h => cases h
        | 2, h => cases h
        | 3, h => cases h
        | 4, h => cases h
        | 5, h => cases h
        | a + 6, h => simp [Bk.lab] at h
      rw [key a i ha, key c i hc]
    · have key : ∀ a i, Rk.lab 0 ⟨.d (.sl 0 false []), .d (.sl 0 false []), 0, none, none, []⟩ a = some i → a = 0 := by
        intro a i h
        match a, h with
        | 0, _ => rfl
        | 1, h => cases h
        | 2, h => cases h
        | a + 3, h => simp [Rk.lab] at h
      intro a c i ha hc
      rw [key a i ha, key c i hc]
    · intro a r h
      match a, h with
      | 0, h =>
        obtain rfl := Option.some.inj h
        refine ⟨fun c h => ?_, fun v hv => by simp at hv⟩
        match c, h with
        | 0, h => simp [Bk.lab] at h
        | 1, h => cases h
        | 2, h => cases h
        | 3, h => cases h
        | 4, h => cases h
        | 5, h => cases h
        | a + 6, h => simp [Bk.lab] at h
      | 1, h => cases h
      | 2, h => cases h
      | a + 3, h => simp [Rk.lab] at h
  rintro n e s ⟨i, b, k, hi, rfl, rfl, hew, hkl, ht⟩
  rcases Nat.lt_or_ge i ls.length with h | h
  rotate_left
  · obtain rfl : i = ls.length := by omega
    simp [F351_spindlelaw9_ElfWrites_b0, wEw, hlen, esc, esc1, escC]
  obtain ⟨x, hx⟩ : ∃ x, ls[i]? = some x := ⟨_, List.getElem?_eq_getElem h⟩
  obtain ⟨hxl, hxz, hxs⟩ := hel x (List.mem_of_getElem? hx)
  have h2 : IntKind.wrap .i64 ((i : Int) + 1) = i + 1 := wrap_i64 (by omega) (by omega)
  have hia := hu.iaddr (i := (i : Int)) (k := .i64) (by omega) (by simp; omega)
  have hld : ∀ st, loadV 1 false st (elP 1 u i 0) = some (.d (.sl x.2.length x.1 (x.2.map Sec.cells).flatten)) := fun st => hu.load (st := st) (i := i) (o := 0) (n := 1) (agg := false) (el := [.sl x.2.length x.1 (x.2.map Sec.cells).flatten]) (by simp [hx]) (by omega) (by omega)
  simp only [Int.toNat_natCast] at hia
  have hxu : SlD 8 (.d (.sl x.2.length x.1 (x.2.map Sec.cells).flatten)) (x.2.map Sec.cells) := ⟨sec_els _, x.1, by rw [List.length_map]⟩
  obtain ⟨w, hwv⟩ : ∃ w, w = V.d (.sl x.2.length x.1 (x.2.map Sec.cells).flatten) := ⟨_, rfl⟩
  rw [← hwv] at hld hxu
  simp [F351_spindlelaw9_ElfWrites_b0, wEw, hlen, h, hia, hld]
  refine (callW_written hp hs hq hr hw hrw h8 hk hd hb he hew hxu hxl hxz (fun y hy => (hxs y hy).1) (fun y hy => (hxs y hy).2.1) (fun y hy => (hxs y hy).2.2) (by omega) (by omega)).mono ?_
  rintro v s1 ⟨rfl, b1, k1, ew1, e1, t1⟩
  simp [wEw, h2]
  exact ⟨ls.length - (i + 1), by omega, i + 1, by omega, rfl, rfl, b1, ⟨k1, ew1⟩, by omega, by omega⟩
end
end Go.Sh
