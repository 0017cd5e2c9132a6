/- Elf's laws: Write as a call. -/
import Derived.Test.YtpgipjjhapapjabShLelfZ
import Derived.Test.YtpgipjjhapapjabShLbookB
import Derived.Test.YtpgipjjhapapjabShFlaw0
import Derived.Test.YtpgipjjhapapjabShBe
set_option linter.unusedVariables false
set_option linter.unusedSimpArgs false
namespace Go.Sh
section
variable {pr : Prog} (hp : Sub elfFns pr) (hs : Sub strsFns pr) (hq : SubP strsPrims pr) {st : St}
include hp hs hq
/-- Write's answer as data. -/
theorem callW_Write {v u : V} {m : Nat} {ss : List Sec} (hc : seeA st m [v] = some [u]) (hu : SlD 8 u (ss.map Sec.cells)) (hn : ss.length ≤ 1099511627776) (hsz : sumR ss ≤ 549755813888) (hin : ∀ x ∈ ss, Sin x) :
    CallW pr 177 [v] st fun r s => s = st ∧ ((good ss ∧ r = .tup [bsl true (fileB ss), .d (.i .i64 0)]) ∨ (¬ good ss ∧ r = .tup [.d (.sl 0 false []), badV])) := by
  refine .seen hc ((callW_Write0 hp hs hq hu hn hsz hin).mono ?_)
  rintro r s (⟨hg, T, rfl, ht⟩ | ⟨hg, rfl⟩)
  · have hcl : (byteCells (fileB ss)).length = (fileB ss).length := byteCells_len _
    have hfl := bytes_flat (fileB ss)
    simp only [FreshR, FreshL, FreshV, ownT, ht, hfl, hcl, true_and, Nat.mul_one]
    exact .inl ⟨rfl, fun h => (by cases h), fun h => (by cases h), rfl, .inl ⟨hg, rfl⟩⟩
  · simp [FreshR, FreshL, FreshV, D.flat, pushO, V.flat, hg, badV]
/-- Write's answer as a row of the caller's. -/
theorem callW_WriteR {v u : V} {m : Nat} {ss : List Sec} (hc : seeA st m [v] = some [u]) (hu : SlD 8 u (ss.map Sec.cells)) (hn : ss.length ≤ 1099511627776) (hsz : sumR ss ≤ 549755813888) (hin : ∀ x ∈ ss, Sin x) :
    CallW pr 177 [v] st fun r s => (good ss ∧ ∃ k, r = .tup [.rsl 1 st.heap.length 0 (fileB ss).length ((fileB ss).length + k), .d (.i .i64 0)] ∧ s = st.push (.row (ofDs (byteCells (fileB ss)) ++ List.replicate k (.d .any)))) ∨ (¬ good ss ∧ s = st ∧ r = .tup [.d (.sl 0 false []), badV]) := by
  refine .seen hc ((callW_Write0 hp hs hq hu hn hsz hin).mono ?_)
  rintro r s (⟨hg, T, rfl, ht⟩ | ⟨hg, rfl⟩)
  · have hcl : (byteCells (fileB ss)).length = (fileB ss).length := byteCells_len _
    have hfl := bytes_flat (fileB ss)
    simp only [FreshR, FreshL, FreshV, ownT, ht, hfl, hcl, true_and, Nat.mul_one]
    refine .inr fun k => ⟨rfl, .inl ⟨hg, k, rfl, rfl⟩⟩
  · simp [FreshR, FreshL, FreshV, D.flat, pushO, V.flat, hg, badV]
end
end Go.Sh

/- Elf's laws: the example that every law asks first, plain. -/
set_option linter.unusedVariables false
set_option linter.unusedSimpArgs false
namespace Go.Sh
def sec0 : Sec := ⟨[46, 116, 101, 120, 116], 1, 6, 0, 0, 8, 0, [1, 2, 3], true⟩
theorem sec0_may : mayS sec0 = true := by decide
theorem sec0_good : good [sec0] := ⟨by decide, fun x hx => by
  obtain rfl : x = sec0 := by simpa using hx
  exact sec0_may⟩
theorem sec0_sin : ∀ x ∈ [sec0], Sin x := fun x hx => by
  obtain rfl : x = sec0 := by simpa using hx
  exact ⟨by decide, by decide, by decide⟩
theorem sec0_offs : offs (allOf [sec0]) = 96 := by decide
theorem sec0_Wr : Wr [sec0] := ⟨sec0_good, sec0_sin, by rw [sec0_offs]; decide⟩
theorem sec0_file : (fileB [sec0]).length = 288 := by rw [file_len, sec0_offs]; rfl
theorem sec0_at : (fileB [sec0])[66]? = some 3 ∧ (fileB [sec0])[72]? = some 0 ∧ (fileB [sec0])[73]? = some 46 := by decide
theorem read_123 : rdV [1, 2, 3] = .tup [.d (.sl 0 false []), .d (.i .i64 3), .d (.i .i64 90)] := rfl
theorem sec0_read : ∃ s, rdV (fileB [sec0]) = .tup [secV [s] true, .d (.i .i64 0), .d (.i .i64 0)] ∧ s.key = sec0.key := by
  obtain ⟨ss', h1, h2⟩ := readF_written sec0_Wr
  have hl : ss'.length = 1 := by have := congrArg List.length h2; simpa using this
  match ss', hl, h1, h2 with
  | [s], _, h1, h2 =>
    refine ⟨s, ?_, by simpa using h2⟩
    unfold rdV
    rw [h1]
    rfl
end Go.Sh

/- Elf's laws: the example that every law asks first. -/
set_option linter.unusedVariables false
set_option linter.unusedSimpArgs false
namespace Go.Sh
def law9Fns : List (Nat × SFn) := [(12, F12_spindlelaw0_Num), (175, F175_spindlelaw9_awake), (180, F180_spindlelaw9_ElfBack), (181, F181_spindlelaw9_ElfForm), (182, F182_spindlelaw9_ElfTurned), (183, F183_spindlelaw9_ElfCut)]
section
variable {pr : Prog} (hp : Sub elfFns pr) (hs : Sub strsFns pr) (hq : SubP strsPrims pr) (hr : Sub ref9Fns pr) (hw : Sub law9Fns pr) {st : St}
include hw
theorem den_num9 (x : Int) : den pr 12 [.d (.i .i64 x)] st = some (.d (.i .i64 x), st) := den_shut (hw.at 0 rfl) rfl rfl (by simp; rfl) (by simp [F12_spindlelaw0_Num])
include hp hs hq hr
theorem callW_awake9 : CallW pr 175 [] st fun r s => s = st ∧ r = .d (.b true) := by
  refine .run0 (fun f => f == 177) (hw.at 1 rfl) (as := []) rfl rfl rfl (codeC_of ?_)
  have n := fun st x => den_num9 hw (st := st) x
  have r1 : ∀ st, den pr 178 [.d (.sl 3 true [.i .u8 1, .i .u8 2, .i .u8 3])] st = some (.tup [.d (.sl 0 false []), .d (.i .i64 3), .d (.i .i64 90)], st) := fun st => by
    have := den_Read9 hp hs hq (st := st) (v := bsl true [1, 2, 3]) (L := [1, 2, 3]) (nz := true) rfl (fun h => by cases h) (by decide)
    rw [read_123] at this
    exact this
  have pl : ∀ st, den pr 184 [.d (.s [46, 116, 101, 120, 116]), .d (.sl 3 true [.i .u8 1, .i .u8 2, .i .u8 3])] st = some (.agg (ofDs sec0.cells), st) := fun st => den_plain hr (st := st) [46, 116, 101, 120, 116] [1, 2, 3] true (bsl true [1, 2, 3]) rfl
  simp only [sec0, Sec.cells, ofDs, List.map_cons, List.map_nil, byteCells, List.length_cons, List.length_nil] at pl
  simp at pl
  simp [F175_spindlelaw9_awake, fillV, lay, reps, ofDs, toDs, toD, r1, n, pl]
  refine (callW_Write hp hs hq (m := 1) (ss := [sec0]) (u := secV [sec0] true) rfl ⟨sec_els _, true, rfl⟩ (by decide) (by decide) sec0_sin).mono ?_
  rintro r s ⟨rfl, ⟨hg, rfl⟩ | ⟨hg, rfl⟩⟩
  rotate_left
  · exact absurd sec0_good hg
  obtain ⟨L, hL⟩ : ∃ L, L = fileB [sec0] := ⟨_, rfl⟩
  obtain ⟨a1, a2, a3⟩ := sec0_at
  have hl := sec0_file
  obtain ⟨x, x1, x2⟩ := sec0_read
  rw [← hL] at a1 a2 a3 hl x1 ⊢
  obtain ⟨i1, l1⟩ := bsl_iaddr (nz := true) a1 (k := .i64)
  obtain ⟨i2, l2⟩ := bsl_iaddr (nz := true) a2 (k := .i64)
  obtain ⟨i3, l3⟩ := bsl_iaddr (nz := true) a3 (k := .i64)
  have rd : ∀ st, den pr 178 [bsl true L] st = some (rdV L, st) := fun st => den_Read9 hp hs hq (st := st) (v := bsl true L) (L := L) (nz := true) rfl (fun h => by cases h) (by omega)
  rw [x1] at rd
  have hd : SlD 8 (secV [x] true) ([x].map Sec.cells) := ⟨sec_els _, true, rfl⟩
  have hia := hd.iaddr (i := (0 : Int)) (k := .i64) (by decide) (by simp)
  have hld : ∀ s, loadV 8 true s (elP 8 (secV [x] true) 0 0) = some (.agg (ofDs x.cells)) := fun s => by
    rw [hd.load (el := x.cells) rfl (by omega) (by omega)]
    rfl
  have sm := fun st => den_Same9 hr (st := st) x sec0
  rw [decide_eq_true x2] at sm
  have i1' : iaddrV 1 (bsl true L) (.d (.i .i64 66)) = some (.ep ((byteCells L).drop 66)) := i1
  have i2' : iaddrV 1 (bsl true L) (.d (.i .i64 72)) = some (.ep ((byteCells L).drop 72)) := i2
  have i3' : iaddrV 1 (bsl true L) (.d (.i .i64 73)) = some (.ep ((byteCells L).drop 73)) := i3
  have l1' : ∀ s, loadV 1 false s (.ep ((byteCells L).drop 66)) = some (.d (.i .u8 3)) := l1
  have l2' : ∀ s, loadV 1 false s (.ep ((byteCells L).drop 72)) = some (.d (.i .u8 0)) := l2
  have l3' : ∀ s, loadV 1 false s (.ep ((byteCells L).drop 73)) = some (.d (.i .u8 46)) := l3
  have hia' : iaddrV 8 (secV [x] true) (.d (.i .i64 0)) = some (elP 8 (secV [x] true) 0 0) := hia
  have hlv : lenV (secV [x] true) = some 1 := rfl
  have hlb : lenV (bsl true L) = some 288 := by rw [← hl]; rfl
  obtain ⟨X, hX⟩ : ∃ X, X = ofDs x.cells := ⟨_, rfl⟩
  rw [← hX] at hld sm
  simp only [sec0, Sec.cells, ofDs, List.map_cons, List.map_nil, byteCells, List.length_cons, List.length_nil] at sm
  simp at sm
  generalize bsl true L = bv at i1' i2' i3' rd hlb ⊢
  generalize secV [x] true = sv at hia' hld hlv rd ⊢
  simp [n, i1', i2', i3', l1', l2', l3', hlb, rd, hlv, hia', hld, pl, sm, fillV, lay, reps, ofDs, toDs, toD]
end
end Go.Sh

/- Elf's laws: ElfBack. -/
set_option linter.unusedVariables false
set_option linter.unusedSimpArgs false
namespace Go.Sh
theorem offs_good {ss : List Sec} (h : good ss) : offs (allOf ss) ≤ sumR ss + 2048 := by
  have ht : endAt 1 (tabOf ss) ≤ 1 + 65 * 17 := by
    have hh := nmsOf_end (ss ++ [ownS [] false]) fun y hy => by
      rw [List.mem_append] at hy
      have hm : mayS y = true := by
        rcases hy with hy | hy
        · exact h.2 y hy
        · obtain rfl : y = _ := by simpa using hy
          exact ownS_may _ _
      unfold mayS at hm
      simp only [Bool.and_eq_true] at hm
      exact hm.1.1.1.1.1.1
    rw [nmsOf_snoc, List.length_append] at hh
    have := h.1
    simp only [List.length_cons, List.length_nil] at hh
    exact Nat.le_trans hh (by omega)
  have e : (ownS (tabB (tabOf ss)) true).data.length = endAt 1 (tabOf ss) := tabB_len
  have hr := r8_lt (ownS (tabB (tabOf ss)) true).data.length
  unfold offs
  rw [show sumR (allOf ss) = sumR ss + r8 (ownS (tabB (tabOf ss)) true).data.length from sumR_snoc _ _]
  omega
theorem wr_of {ss : List Sec} (h : good ss) (hi : ∀ x ∈ ss, Sin x) (hz : sumR ss ≤ 549755813888) : Wr ss := ⟨h, hi, by have := offs_good h; omega⟩
theorem cp_sumR (ss : List Sec) : sumR (ss.map Sec.cp) = sumR ss := by simp [sumR, Sec.cp, Function.comp_def]
theorem cp_key (ss : List Sec) : (ss.map Sec.cp).map Sec.key = ss.map Sec.key := by simp [Sec.cp, Sec.key, Function.comp_def]
theorem cp_sin {ss : List Sec} (h : ∀ x ∈ ss, Sin x) : ∀ x ∈ ss.map Sec.cp, Sin x := fun x hx => by
  obtain ⟨y, hy, rfl⟩ := List.mem_map.1 hx
  exact h y hy
theorem rdV_written {ss : List Sec} (h : Wr ss) : ∃ ss', rdV (fileB ss) = .tup [secV ss' (decide (0 < ss'.length)), .d (.i .i64 0), .d (.i .i64 0)] ∧ ss'.map Sec.key = ss.map Sec.key := by
  obtain ⟨ss', h1, h2⟩ := readF_written h
  exact ⟨ss', by unfold rdV; rw [h1], h2⟩
end Go.Sh

/- Elf's laws: ElfBack. -/
set_option linter.unusedVariables false
set_option linter.unusedSimpArgs false
namespace Go.Sh
section
variable {pr : Prog} (hp : Sub elfFns pr) (hs : Sub strsFns pr) (hq : SubP strsPrims pr) (hr : Sub ref9Fns pr) (hw : Sub law9Fns pr) {st : St}
include hp hs hq hr hw
theorem law_ElfBack {nz : Bool} {ss : List Sec} (hn : ss.length ≤ 1048576) (hz : sumR ss ≤ 549755813888) (hi : ∀ x ∈ ss, Sin x) (hd : ∀ x ∈ ss, x.data.length ≤ 140737488355328) : CallW pr 180 [secV ss nz] st fun r s => s = st ∧ r = .d (.b true) := by
  refine .run0 (fun f => f == 177 || f == 175) (hw.at 2 rfl) (as := [secV ss nz]) rfl rfl rfl (codeC_of ?_)
  have n := fun st x => den_num9 hw (st := st) x
  have cpy := fun st => den_Copy9 hr (st := st) (secV_c ss nz) (by omega) hd
  obtain ⟨cs, hcs⟩ : ∃ cs, cs = ss.map Sec.cp := ⟨_, rfl⟩
  have hcz : sumR cs ≤ 549755813888 := by rw [hcs, cp_sumR]; exact hz
  have hci : ∀ x ∈ cs, Sin x := by rw [hcs]; exact cp_sin hi
  have hcn : cs.length ≤ 1099511627776 := by rw [hcs, List.length_map]; omega
  have hck : cs.map Sec.key = ss.map Sec.key := by rw [hcs]; exact cp_key ss
  rw [← hcs] at cpy
  obtain ⟨v, hv⟩ : ∃ v, v = secV ss nz := ⟨_, rfl⟩
  obtain ⟨cv, hcv⟩ : ∃ cv, cv = secV cs (decide (ss ≠ [])) := ⟨_, rfl⟩
  rw [← hv, ← hcv] at cpy
  rw [← hv]
  have wr := fun st => callW_Write hp hs hq (st := st) (v := cv) (u := cv) (m := 1) (ss := cs) (by rw [hcv]; rfl) (by rw [hcv]; exact ⟨sec_els cs, decide (ss ≠ []), by simp only [secV, List.length_map]⟩) hcn hcz hci
  simp [F180_spindlelaw9_ElfBack]
  refine (callW_awake9 hp hs hq hr hw).mono ?_
  rintro r s ⟨rfl, rfl⟩
  simp [cpy]
  refine (wr _).mono ?_
  rintro r s ⟨rfl, ⟨hg, rfl⟩ | ⟨hg, rfl⟩⟩
  · obtain ⟨ss', q1, q2⟩ := rdV_written (wr_of hg hci hcz)
    have hlen : (fileB cs).length ≤ 1099511626000 := by
      rw [file_len]
      have := offs_good hg
      have := hg.1
      omega
    obtain ⟨L, hL⟩ : ∃ L, L = fileB cs := ⟨_, rfl⟩
    rw [← hL] at q1 hlen ⊢
    have rd : ∀ st, den pr 178 [bsl true L] st = some (rdV L, st) := fun st => den_Read9 hp hs hq (st := st) (v := bsl true L) (L := L) (nz := true) rfl (fun h => by cases h) hlen
    rw [q1] at rd
    have hl' : ss'.length = cs.length := by have := congrArg List.length q2; simpa using this
    have sm := fun st => den_Sames9 hr (st := st) (v := secV ss' (decide (0 < ss'.length))) (v' := v) (secV_c ss' _) (by rw [hv]; exact secV_c ss nz) (by omega) (by omega)
    rw [decide_eq_true (q2.trans hck)] at sm
    generalize secV ss' (decide (0 < ss'.length)) = sv at rd sm ⊢
    generalize bsl true L = bv at rd ⊢
    simp [n, rd, sm]
  · simp [n, badV]
end
end Go.Sh

/- Elf's laws: ElfForm. -/
set_option linter.unusedVariables false
set_option linter.unusedSimpArgs false
namespace Go.Sh
def byt9Fns : List (Nat × SFn) := [(35, F35_spindlelaw0_CopyBytes), (73, F73_spindlelaw0_SameBytes), (81, F81_spindlelaw0_CopyBytes_own)]
theorem readF_err {L : List UInt8} {q : Nat} {e : Int} (h : readF L = .inl (q, e)) : e ≠ 0 ∧ e ≤ 93 ∧ 90 ≤ e := by
  unfold readF at h
  repeat' split at h
  all_goals first
    | (simp only [Sum.inl.injEq, Prod.mk.injEq] at h; obtain ⟨_, rfl⟩ := h; exact ⟨by decide, by decide, by decide⟩)
    | cases h
theorem sumR_file {ss : List Sec} : sumR ss ≤ (fileB ss).length := by
  rw [file_len]
  have : sumR ss ≤ sumR (allOf ss) := by
    rw [show sumR (allOf ss) = sumR ss + r8 (ownS (tabB (tabOf ss)) true).data.length from sumR_snoc _ _]
    omega
  unfold offs
  omega
section
variable {pr : Prog} (hb : Sub byt9Fns pr) {st : St}
include hb
theorem den_copyB9 {nz : Bool} {L : List UInt8} (hl : L.length ≤ 140737488355328) : den pr 35 [bsl nz L] st = some (bsl true L, st) := by
  refine den_shut (hb.at 0 rfl) rfl rfl (by simp; rfl) ?_
  simp [F35_spindlelaw0_CopyBytes, fillV, reps, ofDs, appV, byteCells_len, hl]
  rfl
theorem den_sameB9 {nz nz' : Bool} {L L' : List UInt8} : den pr 73 [bsl nz L, bsl nz' L'] st = some (.d (.b (decide (L = L'))), st) := by
  refine den_shut (hb.at 1 rfl) rfl rfl (by simp; rfl) ?_
  by_cases h : L = L' <;> simp [F73_spindlelaw0_SameBytes, h]
end
section
variable {pr : Prog} (hp : Sub elfFns pr) (hs : Sub strsFns pr) (hq : SubP strsPrims pr) (hr : Sub ref9Fns pr) (hw : Sub law9Fns pr) (hb : Sub byt9Fns pr) {st : St}
include hp hs hq hr hw hb
theorem law_ElfForm {nz : Bool} {L : List UInt8} (hL : L.length ≤ 1048576) : CallW pr 181 [bsl nz L] st fun r s => s = st ∧ r = .d (.b true) := by
  refine .run0 (fun f => f == 177 || f == 175) (hw.at 3 rfl) (as := [bsl nz L]) rfl rfl rfl (codeC_of ?_)
  have n := fun st x => den_num9 hw (st := st) x
  have cpy := fun st => den_copyB9 hb (st := st) (nz := nz) (L := L) (by omega)
  have sm := fun st nz' => den_sameB9 hb (st := st) (nz := nz') (nz' := nz) (L := L) (L' := L)
  rw [decide_eq_true rfl] at sm
  have rd := fun st => den_Read9 hp hs hq (st := st) (v := bsl true L) (L := L) (nz := true) rfl (fun h => by cases h) (by omega)
  simp [F181_spindlelaw9_ElfForm]
  refine (callW_awake9 hp hs hq hr hw).mono ?_
  rintro r s ⟨rfl, rfl⟩
  obtain ⟨A, hA⟩ : ∃ A, A = bsl nz L := ⟨_, rfl⟩
  obtain ⟨B, hB⟩ : ∃ B, B = bsl true L := ⟨_, rfl⟩
  have sm1 := fun st => sm st true
  rw [← hA, ← hB] at cpy sm1
  rw [← hB] at rd
  rw [← hA]
  cases hf : readF L with
  | inl qe =>
    obtain ⟨q, e⟩ := qe
    obtain ⟨he, _, _⟩ := readF_err hf
    have hv : rdV L = .tup [.d (.sl 0 false []), .d (.i .i64 (q : Nat)), .d (.i .i64 e)] := by unfold rdV; rw [hf]
    rw [hv] at rd
    simp [cpy, rd, n, he]
  | inr ss =>
    obtain ⟨hg, hsin, hfb⟩ := readF_file hf
    have hv : rdV L = .tup [secV ss (decide (0 < ss.length)), .d (.i .i64 0), .d (.i .i64 0)] := by unfold rdV; rw [hf]
    rw [hv] at rd
    have h16 := hg.1
    have hz : sumR ss ≤ 1048576 := by
      have := sumR_file (ss := ss)
      rw [hfb] at this
      omega
    obtain ⟨cv, hcv⟩ : ∃ cv, cv = secV ss (decide (0 < ss.length)) := ⟨_, rfl⟩
    have wr := fun st => callW_Write hp hs hq (st := st) (v := cv) (u := cv) (m := 1) (ss := ss) (by rw [hcv]; rfl) (by rw [hcv]; exact ⟨sec_els ss, decide (0 < ss.length), by simp only [secV, List.length_map]⟩) (by omega) (by omega) hsin
    rw [← hcv] at rd
    simp [cpy, rd, n]
    refine (wr _).mono ?_
    rintro r s ⟨rfl, ⟨_, rfl⟩ | ⟨hng, rfl⟩⟩
    · rw [hfb, ← hB]
      simp [n, sm1]
    · exact (hng hg).elim
end
end Go.Sh

/- Elf's laws: ElfCut. -/
set_option linter.unusedVariables false
set_option linter.unusedSimpArgs false
namespace Go.Sh
theorem rdV_less {ss : List Sec} {k : Nat} (h16 : ss.length ≤ 16) (hsz : offs (allOf ss) < 2 ^ 62) (hk : k < (fileB ss).length) : ∃ (q e : Int), rdV ((fileB ss).take k) = .tup [.d (.sl 0 false []), .d (.i .i64 q), .d (.i .i64 e)] ∧ (e = 90 ∨ e = 91) := by
  obtain ⟨q, h | h⟩ := readF_less h16 hsz hk
  · exact ⟨q, 90, by unfold rdV; rw [h], .inl rfl⟩
  · exact ⟨q, 91, by unfold rdV; rw [h], .inr rfl⟩
theorem appV_b9 {nz nz' : Bool} {l l' : List UInt8} {n t : Nat} {ts : List Nat} {bs : List Blk} {fl tf : Nat} (hn : n = l.length) (ht : ts[t]? = some n) (htf : tf ≤ t) (hl : n + l'.length ≤ 140737488355328) :
    appV 1 1 (s0 bs ts fl tf) (.own 1 n nz (byteCells l) t) (bsl nz' l') = some (.own 1 (n + l'.length) (nz || decide (0 < n + l'.length)) (byteCells (l ++ l')) t, s0 bs (ts.set t (n + l'.length)) fl tf) := by
  unfold appV
  rw [bsl_vw]
  subst hn
  simp only [byteCells_len]
  rw [if_pos ⟨trivial, htf, ht, by omega, by omega, hl, by omega⟩]
  simp only [byteCells_app]
  rfl
section
variable {pr : Prog} (hb : Sub byt9Fns pr)
include hb
theorem den_copyBO9 {nz : Bool} {L : List UInt8} {bs : List Blk} {ts : List Nat} {fl : Nat} (hl : L.length ≤ 140737488355328) : den pr 81 [bsl nz L] (s0 bs ts fl 0) = some (.own 1 L.length true (byteCells L) ts.length, s0 bs (ts ++ [L.length]) fl 0) := by
  rw [den_fn (hb.at 2 rfl) rfl rfl, start_raw _ rfl]
  have hcp := appV_b9 (nz := true) (nz' := nz) (l := []) (l' := L) (n := 0) (t := ts.length) (ts := ts ++ [0]) (bs := bs) (fl := fl) (tf := 0) rfl (by simp) (by omega) (by omega)
  simp only [byteCells, List.map_nil, List.nil_append, Nat.zero_add, Bool.true_or] at hcp
  simp [F81_spindlelaw0_CopyBytes_own, fillV, reps, ofDs, hcp]
  rfl
end
section
variable {pr : Prog} (hp : Sub elfFns pr) (hs : Sub strsFns pr) (hq : SubP strsPrims pr) (hr : Sub ref9Fns pr) (hw : Sub law9Fns pr) (hb : Sub byt9Fns pr) {st : St}
include hp hs hq hr hw hb
theorem law_ElfCut {nz nz2 : Bool} {ss : List Sec} {keep : Int} {more : List UInt8} (hn : ss.length ≤ 1048576) (hz : sumR ss ≤ 549755813888) (hi : ∀ x ∈ ss, Sin x) (hd : ∀ x ∈ ss, x.data.length ≤ 140737488355328) (hm : more.length ≤ 1048576) : CallW pr 183 [secV ss nz, .d (.i .i64 keep), bsl nz2 more] st fun r s => s = st ∧ r = .d (.b true) := by
  refine .run0 (fun f => f == 177 || f == 175) (hw.at 5 rfl) (as := [secV ss nz, .d (.i .i64 keep), bsl nz2 more]) rfl rfl rfl (codeC_of ?_)
  have n := fun st x => den_num9 hw (st := st) x
  have cpy := fun st => den_Copy9 hr (st := st) (secV_c ss nz) (by omega) hd
  obtain ⟨cs, hcs⟩ : ∃ cs, cs = ss.map Sec.cp := ⟨_, rfl⟩
  have hcz : sumR cs ≤ 549755813888 := by rw [hcs, cp_sumR]; exact hz
  have hci : ∀ x ∈ cs, Sin x := by rw [hcs]; exact cp_sin hi
  have hcn : cs.length ≤ 1099511627776 := by rw [hcs, List.length_map]; omega
  rw [← hcs] at cpy
  obtain ⟨v, hv⟩ : ∃ v, v = secV ss nz := ⟨_, rfl⟩
  obtain ⟨cv, hcv⟩ : ∃ cv, cv = secV cs (decide (ss ≠ [])) := ⟨_, rfl⟩
  rw [← hv, ← hcv] at cpy
  rw [← hv]
  have wr := fun st => callW_Write hp hs hq (st := st) (v := cv) (u := cv) (m := 1) (ss := cs) (by rw [hcv]; rfl) (by rw [hcv]; exact ⟨sec_els cs, decide (ss ≠ []), by simp only [secV, List.length_map]⟩) hcn hcz hci
  simp [F183_spindlelaw9_ElfCut]
  refine (callW_awake9 hp hs hq hr hw).mono ?_
  rintro r s ⟨rfl, rfl⟩
  simp [cpy]
  refine (wr _).mono ?_
  rintro r s ⟨rfl, ⟨hg, rfl⟩ | ⟨hg, rfl⟩⟩
  · have hoff := offs_good hg
    have h16 := hg.1
    have hlen : (fileB cs).length ≤ 824633720832 := by
      rw [file_len]
      omega
    have hls := fun k hk => rdV_less (ss := cs) (k := k) h16 (by omega) hk
    have hmr : more ≠ [] → rdV (fileB cs ++ more) = .tup [.d (.sl 0 false []), .d (.i .i64 40), .d (.i .i64 91)] := fun h => by
      unfold rdV
      rw [readF_more h16 (by omega) h]
      rfl
    obtain ⟨F, hF⟩ : ∃ F, F = fileB cs := ⟨_, rfl⟩
    rw [← hF] at hls hmr hlen ⊢
    have rd : ∀ st n t L, n = L.length → L.length ≤ 1099511626000 → den pr 178 [.own 1 n true (byteCells L) t] st = some (rdV L, st) := fun st n t L hn hl => den_Read9 hp hs hq (st := st) (v := .own 1 n true (byteCells L) t) (L := L) (nz := true) (by rw [hn]; rfl) (fun h => by cases h) hl
    have rdb : ∀ st L, L.length ≤ 1099511626000 → den pr 178 [bsl true L] st = some (rdV L, st) := fun st L hl => den_Read9 hp hs hq (st := st) (v := bsl true L) (L := L) (nz := true) rfl (fun h => by cases h) hl
    have cb : ∀ st L, L.length ≤ 1099511626000 → den pr 35 [bsl true L] st = some (bsl true L, st) := fun st L h => den_copyB9 hb (by omega)
    have cO := fun bs ts fl => den_copyBO9 hb (nz := true) (L := F) (bs := bs) (ts := ts) (fl := fl) (by omega)
    have ap := fun t ts bs h => appV_b9 (nz := true) (nz' := nz2) (l := F) (l' := more) (n := F.length) (t := t) (ts := ts) (bs := bs) (fl := 0) (tf := 0) rfl h (by omega) (by omega)
    simp only [Bool.true_or] at ap
    have hrm := fun st n t hn => rd st n t (F ++ more) hn (by rw [List.length_append]; omega)
    obtain ⟨M, hM⟩ : ∃ M, M = bsl nz2 more := ⟨_, rfl⟩
    have hMl : lenV M = some more.length := by rw [hM]; rfl
    rw [← hM] at ap ⊢
    obtain ⟨B, hB⟩ : ∃ B, B = bsl true F := ⟨_, rfl⟩
    have hBl : lenV B = some F.length := by rw [hB]; rfl
    rw [← hB] at cO ⊢
    by_cases hk : 0 ≤ keep ∧ keep < F.length
    · obtain ⟨k, rfl⟩ : ∃ k : Nat, keep = k := ⟨keep.toNat, by omega⟩
      have hkl : k < F.length := by omega
      have hkI : (k : Int) < F.length := by omega
      have hk0 : (0 : Int) ≤ k := by omega
      have hsl : slcV 1 B none (some (.d (.i .i64 (k : Int)))) none = some (bsl true (F.take k)) := by
        have := bsl_slc true F (lo := none) (hi := some (.d (.i .i64 (k : Int)))) (a := 0) (b := k) rfl rfl (by omega) (by omega)
        rw [hB]
        simpa using this
      obtain ⟨q, e, h1, h2⟩ := hls k hkl
      have hT := fun st => rdb st (F.take k) (by rw [List.length_take]; omega)
      have hC := fun st => cb st (F.take k) (by rw [List.length_take]; omega)
      rw [h1] at hT
      obtain ⟨Tk, hTk⟩ : ∃ Tk, Tk = bsl true (F.take k) := ⟨_, rfl⟩
      rw [← hTk] at hT hC hsl
      by_cases hmo : more = []
      · have hml : more.length = 0 := by rw [hmo]; rfl
        rcases h2 with rfl | rfl <;> simp [n, hBl, hkl, hkI, hk0, hsl, hC, hT, hMl, hml]
      · have hml : more.length ≠ 0 := fun h => hmo (List.length_eq_zero_iff.1 h)
        have hmlI : ¬ (more.length : Int) = 0 := by omega
        rw [hmr hmo] at hrm
        rcases h2 with rfl | rfl <;> simp [n, hBl, hkl, hkI, hk0, hsl, hC, hT, hMl, hml, hmlI, hmo, cO, ap, hrm]
    · by_cases hmo : more = []
      · have hml : more.length = 0 := by rw [hmo]; rfl
        by_cases hk0 : 0 ≤ keep
        · have hk1 : ¬ keep < F.length := fun h => hk ⟨hk0, h⟩
          simp [n, hBl, hk0, hk1, hMl, hml]
        · simp [n, hBl, hk0, hMl, hml]
      · have hml : more.length ≠ 0 := fun h => hmo (List.length_eq_zero_iff.1 h)
        have hmlI : ¬ (more.length : Int) = 0 := by omega
        rw [hmr hmo] at hrm
        by_cases hk0 : 0 ≤ keep
        · have hk1 : ¬ keep < F.length := fun h => hk ⟨hk0, h⟩
          simp [n, hBl, hk0, hk1, hMl, hml, hmlI, hmo, cO, ap, hrm]
        · simp [n, hBl, hk0, hMl, hml, hmlI, hmo, cO, ap, hrm]
  · simp [n, badV]
end
end Go.Sh

/- Elf's laws: a file is that of its sections' keys; a byte changed. -/
set_option linter.unusedVariables false
set_option linter.unusedSimpArgs false
namespace Go.Sh
/-! ### A file is that of its sections' keys -/
theorem nmsOf_cp (ss : List Sec) : nmsOf (ss.map Sec.cp) = nmsOf ss := by
  unfold nmsOf
  rw [List.foldl_map]
  rfl
theorem tabOf_cp (ss : List Sec) : tabOf (ss.map Sec.cp) = tabOf ss := by
  unfold tabOf
  rw [nmsOf_cp]
theorem allOf_cp (ss : List Sec) : allOf (ss.map Sec.cp) = (allOf ss).map Sec.cp := by
  unfold allOf
  rw [tabOf_cp, List.map_append]
  rfl
theorem offs_cp (l : List Sec) : offs (l.map Sec.cp) = offs l := by
  unfold offs
  rw [cp_sumR]
theorem bodyB_cp (l : List Sec) : bodyB (l.map Sec.cp) = bodyB l := by
  unfold bodyB
  rw [List.map_map]
  rfl
theorem entB_cp {pl pl' : Sec → Nat} (h : ∀ x, pl' x.cp = pl x) : ∀ (l : List Sec) (a : Nat), entB pl' a (l.map Sec.cp) = entB pl a l
  | [], _ => rfl
  | s :: r, a => by
    have e : entF s.cp (pl' s.cp) a = entF s (pl s) a := by rw [h]; rfl
    simp only [List.map_cons, entB, e]
    rw [show s.cp.data = s.data from rfl, entB_cp h r]
theorem fileB_cp (ss : List Sec) : fileB (ss.map Sec.cp) = fileB ss := by
  have hpl : ∀ x : Sec, plOf (ss.map Sec.cp) x.cp = plOf ss x := fun x => by
    unfold plOf
    rw [tabOf_cp]
    rfl
  unfold fileB
  rw [allOf_cp, offs_cp, bodyB_cp, entB_cp hpl, List.length_map]
def SKey.sec (k : SKey) : Sec := ⟨k.nm, k.ty, k.fl, k.li, k.inf, k.al, k.es, k.data, true⟩
theorem cp_of_key {a b : List Sec} (h : a.map Sec.key = b.map Sec.key) : a.map Sec.cp = b.map Sec.cp := by
  have e : ∀ l : List Sec, l.map Sec.cp = (l.map Sec.key).map SKey.sec := fun l => by rw [List.map_map]; rfl
  rw [e, e, h]
theorem fileB_key {a b : List Sec} (h : a.map Sec.key = b.map Sec.key) : fileB a = fileB b := by
  rw [← fileB_cp a, ← fileB_cp b, cp_of_key h]
/-! ### A byte changed -/
theorem and_255 (x : Int) : bitI .and .i64 x 255 = some (.i .i64 ((x % 256).toNat : Nat)) := by
  rw [bit_and]
  have h1 : (BitVec.ofInt 64 x &&& BitVec.ofInt 64 255).toNat = (x % 256).toNat := by
    rw [BitVec.toNat_and, show BitVec.ofInt 64 255 = BitVec.ofNat 64 255 from ofInt_nat 64 255, BitVec.toNat_ofInt, BitVec.toNat_ofNat, show (255 % 2 ^ 64 : Nat) = 2 ^ 8 - 1 from rfl, Nat.and_two_pow_sub_one_eq_mod]
    omega
  rw [show (BitVec.ofInt (IntKind.bits .i64) x &&& BitVec.ofInt (IntKind.bits .i64) 255).toNat = (x % 256).toNat from h1, wrap_i64 (by omega) (by omega)]
/-- A byte, changed. -/
def turnB (b : UInt8) (x : Int) : UInt8 := ⟨b.toBitVec ^^^ BitVec.ofInt 8 x⟩
theorem xor_u8 (b : UInt8) (x : Int) : bitI .xor .u8 (b.toNat : Int) (IntKind.wrap .u8 x) = some (.i .u8 ((turnB b x).toNat : Int)) := by
  have e1 : BitVec.ofInt (IntKind.bits .u8) (b.toNat : Int) = b.toBitVec := by
    rw [ofInt_nat]
    simp [IntKind.bits]
  have e : bitI .xor .u8 (b.toNat : Int) (IntKind.wrap .u8 x) = some (.i .u8 (IntKind.wrap .u8 ((BitVec.ofInt (IntKind.bits .u8) (b.toNat : Int) ^^^ BitVec.ofInt (IntKind.bits .u8) (IntKind.wrap .u8 x)).toNat))) := rfl
  rw [e, e1, ofInt_wrap]
  show some (D.i .u8 (IntKind.wrap .u8 ((turnB b x).toNat : Int))) = _
  have := (turnB b x).toNat_lt
  rw [wrapE8, Int.emod_eq_of_lt (by omega) (by omega)]
theorem turnB_ne {b : UInt8} {x : Int} (h : (x % 256).toNat ≠ 0) : turnB b x ≠ b := by
  intro e
  have e1 : b.toBitVec ^^^ BitVec.ofInt 8 x = b.toBitVec := congrArg UInt8.toBitVec e
  have e2 : BitVec.ofInt 8 x = 0#8 := by
    have := congrArg (b.toBitVec ^^^ ·) e1
    simpa [← BitVec.xor_assoc] using this
  have e3 := congrArg BitVec.toNat e2
  rw [BitVec.toNat_ofInt] at e3
  simp at e3
  omega
theorem set_ne {L : List UInt8} {i : Nat} {b c : UInt8} (h : L[i]? = some b) (hn : c ≠ b) : L.set i c ≠ L := by
  intro e
  have := congrArg (·[i]?) e
  simp only [List.getElem?_set, h] at this
  have hl := (List.getElem?_eq_some_iff.1 h).1
  simp [hl] at this
  exact hn this
theorem see9 {v : V} {L : List UInt8} {st : St} (h : Byt st v L) (k : Nat) : ∃ nz, see1 st (k + 1) v = some (bsl nz L) := by
  cases v with
  | d d =>
    cases d with
    | sl n nz cs => obtain ⟨rfl, rfl⟩ := h; exact ⟨nz, rfl⟩
    | _ => exact h.elim
  | own sz n nz cs t => obtain ⟨rfl, rfl⟩ := h; exact ⟨nz, rfl⟩
  | rsl sz id off n cap =>
    obtain ⟨rfl, rfl, rfl, c, h4, h5, h6⟩ := h
    refine ⟨true, ?_⟩
    simp only [see1, seeD, h4, Nat.zero_add, Nat.mul_one, h5, if_true, List.drop_zero, h6, seeL_ofDs, Option.map_some, bsl]
  | _ => exact h.elim
section
variable {pr : Prog} (hb : Sub byt9Fns pr) {st : St}
include hb
omit hb in
theorem raw_copyB9 {nz : Bool} {L : List UInt8} (hl : L.length ≤ 140737488355328) : RawD pr F35_spindlelaw0_CopyBytes [bsl nz L] fun v s => v = .own 1 L.length true (byteCells L) 0 ∧ s.tips[0]? = some L.length := by
  refine .of ?_
  simp [F35_spindlelaw0_CopyBytes, fillV, reps, ofDs, appV, byteCells_len, hl]
theorem callW_copyB9 {v : V} {L : List UInt8} (h : Byt st v L) (hl : L.length ≤ 140737488355328) : CallW pr 35 [v] st fun r s => s = st ∧ r = bsl true L := by
  obtain ⟨nz, hs⟩ := see9 h 0
  refine .seen (k := 1) (as := [bsl nz L]) (by simp only [seeA, hs]) (((raw_copyB9 hl).callW (hb.at 0 rfl) rfl).mono ?_)
  rintro v s ⟨rfl, ht⟩
  have hcl : (byteCells L).length = L.length := byteCells_len L
  have hfl := bytes_flat L
  simp only [FreshR, FreshV, ht, hfl, hcl, true_and, Nat.mul_one]
  exact .inl ⟨rfl, rfl⟩
theorem callW_sameB9 {v : V} {nz : Bool} {L : List UInt8} (h : Byt st v L) : CallW pr 73 [bsl nz L, v] st fun r s => s = st ∧ r = .d (.b true) := by
  obtain ⟨nz', hs⟩ := see9 h 0
  have hden := den_sameB9 hb (st := st0) (nz := nz) (nz' := nz') (L := L) (L' := L)
  rw [decide_eq_true rfl] at hden
  refine .seen (k := 1) (as := [bsl nz L, bsl nz' L]) (seeA_two rfl hs) (CallW.of_den hden ?_)
  simp [FreshR, FreshV, D.flat, pushO, V.flat]
end
end Go.Sh

/- Elf's laws: ElfTurned. -/
set_option linter.unusedVariables false
set_option linter.unusedSimpArgs false
namespace Go.Sh
theorem lay_mid9 {α : Type} {a b c d : List α} {o : Nat} (ho : a.length = o) (h : b.length = d.length) : lay (a ++ (b ++ c)) o d = a ++ (d ++ c) := by
  subst ho
  unfold lay
  rw [List.take_left' rfl, ← List.append_assoc a b c, List.drop_left' (by simp [h]), List.append_assoc]
theorem r8_sumR {ss : List Sec} {x : Sec} (h : x ∈ ss) : r8 x.data.length ≤ sumR ss := by
  induction ss with
  | nil => cases h
  | cons s r ih =>
    simp only [sumR, List.map_cons, List.sum_cons] at ih ⊢
    cases h with
    | head => omega
    | tail _ h => have := ih h; omega
section
variable {pr : Prog} (hp : Sub elfFns pr) (hs : Sub strsFns pr) (hq : SubP strsPrims pr) (hr : Sub ref9Fns pr) (hw : Sub law9Fns pr) (hb : Sub byt9Fns pr) {st : St}
include hp hs hq hr hw hb
theorem law_ElfTurned {nz : Bool} {ss : List Sec} {at' x : Int} (hn : ss.length ≤ 1048576) (hz : sumR ss ≤ 16777216) (hi : ∀ x ∈ ss, Sin x) (hd : ∀ x ∈ ss, x.data.length ≤ 140737488355328) : CallW pr 182 [secV ss nz, .d (.i .i64 at'), .d (.i .i64 x)] st fun r s => s = st ∧ r = .d (.b true) := by
  refine .run0 (fun f => f == 177 || f == 175 || f == 35 || f == 73) (hw.at 4 rfl) (as := [secV ss nz, .d (.i .i64 at'), .d (.i .i64 x)]) rfl rfl rfl (codeC_of ?_)
  have n := fun st x => den_num9 hw (st := st) x
  have cpy := fun st => den_Copy9 hr (st := st) (secV_c ss nz) (by omega) hd
  obtain ⟨cs, hcs⟩ : ∃ cs, cs = ss.map Sec.cp := ⟨_, rfl⟩
  have hcz : sumR cs ≤ 16777216 := by rw [hcs, cp_sumR]; exact hz
  have hci : ∀ x ∈ cs, Sin x := by rw [hcs]; exact cp_sin hi
  have hcn : cs.length ≤ 1099511627776 := by rw [hcs, List.length_map]; omega
  rw [← hcs] at cpy
  obtain ⟨v, hv0⟩ : ∃ v, v = secV ss nz := ⟨_, rfl⟩
  obtain ⟨cv, hcv⟩ : ∃ cv, cv = secV cs (decide (ss ≠ [])) := ⟨_, rfl⟩
  rw [← hv0, ← hcv] at cpy
  rw [← hv0]
  have wr := fun st => callW_WriteR hp hs hq (st := st) (v := cv) (u := cv) (m := 1) (ss := cs) (by rw [hcv]; rfl) (by rw [hcv]; exact ⟨sec_els cs, decide (ss ≠ []), by simp only [secV, List.length_map]⟩) hcn (by omega) hci
  have hxa := and_255 x
  have hne := fun b => turnB_ne (b := b) (x := x)
  obtain ⟨m, hm⟩ : ∃ m, m = (x % 256).toNat := ⟨_, rfl⟩
  rw [← hm] at hxa hne
  simp [F182_spindlelaw9_ElfTurned]
  refine (callW_awake9 hp hs hq hr hw).mono ?_
  rintro r s ⟨rfl, rfl⟩
  simp [cpy]
  refine (wr _).mono ?_
  rintro r s (⟨hg, k, rfl, rfl⟩ | ⟨hg, rfl, rfl⟩)
  · have hoff := offs_good hg
    have h16 := hg.1
    have hlen : (fileB cs).length ≤ 33554432 := by
      rw [file_len]
      omega
    obtain ⟨F, hF⟩ : ∃ F, F = fileB cs := ⟨_, rfl⟩
    rw [← hF] at hlen ⊢
    obtain ⟨R, hR⟩ : ∃ R, R = ofDs (byteCells F) ++ List.replicate k (V.d .any) := ⟨_, rfl⟩
    rw [← hR]
    by_cases h0 : at' < 0
    · simp [n, h0]
    by_cases h1 : (F.length : Int) ≤ at'
    · simp [n, h0, h1]
    by_cases h2 : m = 0
    · rw [h2] at hxa
      simp [n, h0, h1, hxa]
    obtain ⟨i, rfl⟩ : ∃ i : Nat, at' = i := ⟨at'.toNat, by omega⟩
    have hiF : i < F.length := by omega
    have hiFI : (i : Int) < F.length := by omega
    have h0' : (0 : Int) ≤ i := by omega
    obtain ⟨b, hbi⟩ : ∃ b, F[i]? = some b := ⟨_, List.getElem?_eq_getElem hiF⟩
    obtain ⟨c, hc⟩ : ∃ c, c = turnB b x := ⟨_, rfl⟩
    have hcb : c ≠ b := by rw [hc]; exact hne b h2
    obtain ⟨G, hG⟩ : ∃ G, G = F.set i c := ⟨_, rfl⟩
    have hGF : G ≠ F := by rw [hG]; exact set_ne hbi hcb
    have hGl : G.length = F.length := by rw [hG, List.length_set]
    have hxor := xor_u8 b x
    rw [← hc] at hxor
    have hRl : R.length = F.length + k := by rw [hR]; simp [ofDs, byteCells]
    have hRd : (R.drop i).take 1 = [V.d (.i .u8 (b.toNat : Int))] := by
      have e1 : (R.drop i).take 1 = [R[i]'(by omega)] := by
        rw [List.drop_eq_getElem_cons (by omega)]
        rfl
      have e2 : R[i]? = some (V.d (.i .u8 (b.toNat : Int))) := by
        rw [hR, List.getElem?_append_left (by simp [ofDs, byteCells]; omega)]
        simp [ofDs, byteCells, hbi]
      rw [e1]
      rw [List.getElem?_eq_getElem (by omega)] at e2
      rw [Option.some.inj e2]
    obtain ⟨R2, hR2⟩ : ∃ R2, R2 = ofDs (byteCells G) ++ List.replicate k (V.d .any) := ⟨_, rfl⟩
    have hlay : lay R i [V.d (.i .u8 (c.toNat : Int))] = R2 := by
      have e : ofDs (byteCells F) = ofDs (byteCells (F.take i)) ++ ([V.d (.i .u8 (b.toNat : Int))] ++ ofDs (byteCells (F.drop (i + 1)))) := by
        have : F = F.take i ++ b :: F.drop (i + 1) := by
          rw [← (List.getElem?_eq_some_iff.1 hbi).2, List.getElem_cons_drop, List.take_append_drop]
        conv => lhs; rw [this]
        simp [ofDs, byteCells]
      have e2 : ofDs (byteCells G) = ofDs (byteCells (F.take i)) ++ ([V.d (.i .u8 (c.toNat : Int))] ++ ofDs (byteCells (F.drop (i + 1)))) := by
        rw [hG, List.set_eq_take_append_cons_drop, if_pos hiF]
        simp [ofDs, byteCells]
      rw [hR, hR2, e, e2, List.append_assoc, List.append_assoc, List.append_assoc, List.append_assoc]
      exact lay_mid9 (by simp [ofDs, byteCells]; omega) rfl
    have hfit : i + 1 ≤ R.length := by omega
    have h2I : ¬ (m : Int) = 0 := by omega
    simp [n, h0, h1, hxa, h2, h2I, hiFI, h0', iaddrV, hRd, hfit, hlay, hxor]
    have hbyt : Byt (s0 [Blk.row R2] [] 0 0) (V.rsl 1 0 0 F.length (F.length + k)) G := ⟨rfl, rfl, hGl.symm, R2, rfl, by rw [hR2]; simp [ofDs, byteCells, hGl], by
      rw [hR2, List.take_append_of_le_length (by simp [ofDs, byteCells, hGl]), List.take_of_length_le (by simp [ofDs, byteCells, hGl])]⟩
    have hsm := callW_sameB9 hb (nz := true) hbyt
    have rd : ∀ st, den pr 178 [bsl true G] st = some (rdV G, st) := fun st => den_Read9 hp hs hq (st := st) (v := bsl true G) (L := G) (nz := true) rfl (fun h => by cases h) (by omega)
    refine (callW_copyB9 hb hbyt (by omega)).mono ?_
    rintro r s ⟨rfl, rfl⟩
    cases hf : readF G with
    | inl qe =>
      obtain ⟨q, e⟩ := qe
      obtain ⟨he, _, _⟩ := readF_err hf
      have hq1 := readF_place hf
      have hq2 : (q : Int) ≤ F.length := by omega
      have hq0 : (0 : Int) ≤ q := by omega
      have hq3 : q ≤ F.length := by omega
      have hv : rdV G = .tup [.d (.sl 0 false []), .d (.i .i64 (q : Nat)), .d (.i .i64 e)] := by unfold rdV; rw [hf]
      rw [hv] at rd
      simp [rd, n, he, hq2, hq0, hq3]
    | inr ss' =>
      obtain ⟨hg', hsin', hfb⟩ := readF_file hf
      have hv : rdV G = .tup [secV ss' (decide (0 < ss'.length)), .d (.i .i64 0), .d (.i .i64 0)] := by unfold rdV; rw [hf]
      have h16' := hg'.1
      have hz' : sumR ss' ≤ 33554432 := by
        have := sumR_file (ss := ss')
        rw [hfb] at this
        omega
      have hd' : ∀ x ∈ ss', x.data.length ≤ 140737488355328 := fun x hx => by
        have h1 : r8 x.data.length ≤ sumR ss' := r8_sumR hx
        have h2 : x.data.length ≤ r8 x.data.length := by unfold r8; omega
        omega
      have hkey : ss'.map Sec.key ≠ ss.map Sec.key := fun e => hGF (by
        rw [← hfb, hF, hcs, fileB_cp]
        exact fileB_key e)
      obtain ⟨ds, hds⟩ : ∃ ds, ds = ss'.map Sec.cp := ⟨_, rfl⟩
      have hdl : ds.length = ss'.length := by rw [hds, List.length_map]
      have hdz : sumR ds ≤ 33554432 := by rw [hds, cp_sumR]; exact hz'
      have hdi : ∀ x ∈ ds, Sin x := by rw [hds]; exact cp_sin hsin'
      have hdf : fileB ds = G := by rw [hds, fileB_cp]; exact hfb
      have hdg : good ds := by
        refine ⟨by omega, fun x hx => ?_⟩
        rw [hds] at hx
        obtain ⟨y, hy, rfl⟩ := List.mem_map.1 hx
        exact hg'.2 y hy
      have cpy2 := fun st => den_Copy9 hr (st := st) (secV_c ss' (decide (0 < ss'.length))) (by omega) hd'
      rw [← hds] at cpy2
      have sm := fun st => den_Sames9 hr (st := st) (v := secV ss' (decide (0 < ss'.length))) (v' := v) (secV_c ss' _) (by rw [hv0]; exact secV_c ss nz) (by omega) (by omega)
      rw [decide_eq_false hkey] at sm
      obtain ⟨dv, hdv⟩ : ∃ dv, dv = secV ds (decide (ss' ≠ [])) := ⟨_, rfl⟩
      have wr2 := fun st => callW_Write hp hs hq (st := st) (v := dv) (u := dv) (m := 1) (ss := ds) (by rw [hdv]; rfl) (by rw [hdv]; exact ⟨sec_els ds, decide (ss' ≠ []), by simp only [secV, List.length_map]⟩) (by omega) (by omega) hdi
      rw [← hdv] at cpy2
      rw [hv] at rd
      generalize secV ss' (decide (0 < ss'.length)) = gv at rd cpy2 sm ⊢
      simp [rd, n, cpy2]
      refine (wr2 _).mono ?_
      rintro r s ⟨rfl, ⟨_, rfl⟩ | ⟨hng, rfl⟩⟩
      · rw [hdf]
        simp [n, sm]
        refine hsm.mono ?_
        rintro r s ⟨rfl, rfl⟩
        simp
      · exact (hng hdg).elim
  · simp [n, badV]
end
end Go.Sh
