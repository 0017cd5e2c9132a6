/- The law ElfWrites on shadow runs. -/
import Derived.Test.YtpgipjjhapapjaaShLewJ
import Derived.Test.YtpgipjjhapapjaaShLewE
import Derived.Test.YtpgipjjhapapjaaShLewK
import Derived.Test.YtpgipjjhapapjaaShLbookG
set_option linter.unusedVariables false
set_option linter.unusedSimpArgs false
set_option linter.unusedSectionVars false
namespace Go.Sh
theorem BkI.kr {st s : St} {p : Nat} {b : Bk} {A : Nat → Prop} (h : BkI st p b) (g : Kr st s A) (hl : ∀ a r, b.lab p a = some r → ¬ A r) (hv : ∀ v, v ∈ b.kv ∨ v ∈ b.wv → ∀ r, foot v = some r → ¬ A r) : BkI s p b := by
  have hk : ∀ a r, b.lab p a = some r → s.row r = st.row r := fun a r e => g.keep r (h.lablt a r e) (hl a r e)
  refine ⟨g.floor.trans h.fl, (hk 0 p rfl).trans h.row, h.F.row (hk 1), h.H.row (hk 2), h.M.row (hk 3), h.K.row (hk 4), h.W.row (hk 5), fun x hx => (h.fr x hx).row fun r hr => ?_, fun i k w hk hw => ?_, h.sep, h.out, h.small, h.size, h.total⟩
  · obtain ⟨i, hi⟩ := List.mem_iff_getElem?.1 hx
    exact hk (i + 6) r (by simp [Bk.lab, hi, hr])
  · obtain ⟨L, h1, h2⟩ := h.kw i k w hk hw
    exact ⟨L, h1.row fun j hj => g.keep j (h1.lt hj) (hv k (.inl (List.mem_of_getElem? hk)) j hj), h2.row fun j hj => g.keep j (h2.lt hj) (hv w (.inr (List.mem_of_getElem? hw)) j hj)⟩
theorem LentK.kr {s s' : St} {p r : Nat} {k : Rk} {ss : List Sec} {A : Nat → Prop} (h : LentK s p k ss r) (g : Kr s s' A) (ha : ∀ a r, k.lab p a = some r → ¬ A r) : LentK s' p k ss r := by
  have hk : ∀ a r, k.lab p a = some r → s'.row r = s.row r := fun a r e => g.keep r (lab_lt h.rk e) (ha a r e)
  refine ⟨h.rk.gr g ha, h.jL, h.L, h.n, (hk 1 r h.jL).trans h.list, fun m x hx => ?_⟩
  obtain ⟨z, c, b1, b2, b3⟩ := h.bufs m x hx
  exact ⟨z, c, b1, (hk (m + 3) z (by simp [Rk.lab, b1])).trans b2, b3⟩
theorem BkI.vbyt9 {st : St} {p : Nat} {b : Bk} (h : BkI st p b) {v : V} (hv : v ∈ b.kv ∨ v ∈ b.wv) : ∃ L, Byt st v L := by
  have hwl : b.wv.length = b.kv.length := by simpa using h.W.1
  rcases hv with hv | hv
  · obtain ⟨i, hi⟩ := List.mem_iff_getElem?.1 hv
    have hlt := (List.getElem?_eq_some_iff.1 hi).1
    obtain ⟨w, hw⟩ : ∃ w, b.wv[i]? = some w := ⟨_, List.getElem?_eq_getElem (by omega)⟩
    obtain ⟨L, h1, _⟩ := h.kw i v w hi hw
    exact ⟨L, h1⟩
  · obtain ⟨i, hi⟩ := List.mem_iff_getElem?.1 hv
    have hlt := (List.getElem?_eq_some_iff.1 hi).1
    obtain ⟨w, hw⟩ : ∃ w, b.kv[i]? = some w := ⟨_, List.getElem?_eq_getElem (by omega)⟩
    obtain ⟨L, _, h1⟩ := h.kw i w v hw hi
    exact ⟨L, h1⟩
/-- A book and a rack. -/
structure EW (s : St) (p q : Nat) (b : Bk) (k : Rk) : Prop where
  bk : BkI s p b
  rk : RkI s q k
  frl : b.fr.length ≤ 2
  off : ∀ a r, k.lab q a = some r → (∀ c, b.lab p c ≠ some r) ∧ ∀ v, v ∈ b.kv ∨ v ∈ b.wv → foot v ≠ some r
/-- What was written: a row of its own, or nothing. -/
structure Got (s : St) (got : V) (L : List UInt8) (j : Option Nat) : Prop where
  lr : LR s 1 got L.length (ofDs (byteCells L)) j
theorem EW.off2 {s s1 : St} {p q : Nat} {b : Bk} {k k1 : Rk} (h : EW s p q b k) (hF : RkF s s1 q k k1) : BkI s1 p b ∧ ∀ a r, k1.lab q a = some r → (∀ c, b.lab p c ≠ some r) ∧ ∀ v, v ∈ b.kv ∨ v ∈ b.wv → foot v ≠ some r := by
  refine ⟨h.bk.kr hF.1 (fun a r e ⟨c, e2⟩ => (h.off c r e2).1 a e) fun v hv r e ⟨c, e2⟩ => (h.off c r e2).2 v hv e, fun a r e => ?_⟩
  rcases hF.2 a r e with ⟨c, e2⟩ | e2
  · exact h.off c r e2
  · refine ⟨fun c e3 => ?_, fun v hv e3 => ?_⟩
    · have := h.bk.lablt c r e3; omega
    · obtain ⟨L, hb⟩ := h.bk.vbyt9 hv
      have := hb.lt e3; omega
def wEw (f : Nat) : Bool := f == 352 || f == 353 || f == 177 || f == 354 || f == 73 || f == 126 || f == 350 || f == 175
def ewFns : List (Nat × SFn) := [(350, F350_spindlelaw9_written), (351, F351_spindlelaw9_ElfWrites), (73, F73_spindlelaw0_SameBytes)]
theorem good_cp9 {ss : List Sec} : good (ss.map Sec.cp) ↔ good ss := by
  unfold good
  rw [List.length_map]
  constructor
  · rintro ⟨h1, h2⟩
    exact ⟨h1, fun x hx => h2 x.cp (List.mem_map_of_mem hx)⟩
  · rintro ⟨h1, h2⟩
    refine ⟨h1, fun x hx => ?_⟩
    obtain ⟨y, hy, rfl⟩ := List.mem_map.1 hx
    exact h2 y hy
open Classical in
/-- What the document answers: bytes, and an error. -/
noncomputable def wOut (ss : List Sec) : Bool × List UInt8 × Int := if good ss then (true, fileB ss, 0) else (false, [], 92)
theorem wOut_len {ss : List Sec} (hz : sumR ss ≤ 16777216) : (wOut ss).2.1.length ≤ 33554432 := by
  unfold wOut
  split
  · rename_i hg
    have := offs_good hg
    have h16 := hg.1
    simp only
    rw [file_len]
    omega
  · simp
section
variable {pr : Prog} (hp : Sub elfFns pr) (hs : Sub strsFns pr) (hq : SubP strsPrims pr) (hr : Sub ref9bFns pr) (hw : Sub aw9Fns pr) (hrw : Sub rwFns pr) (h8 : Sub nm8Fns pr) (hk : Sub rkFns pr) (hd : Sub lendFns pr) (hb : Sub bookFns pr) (he : Sub ewFns pr)
include hrw h8 in
theorem callW_want {st : St} {u : V} {ss : List Sec} (hu : SlD 8 u (ss.map Sec.cells)) (hn : ss.length ≤ 1048576) (hsz : sumR ss ≤ 16777216) (hnm : ∀ x ∈ ss, x.nm.length ≤ 140737488351232) :
    CallW pr 352 [u] st fun r s => s = st ∧ r = .tup [bsl (wOut ss).1 (wOut ss).2.1, .d (.i .i64 (wOut ss).2.2)] := by
  refine (callW_Write9r hrw h8 hu.c (by omega) (by omega) hnm).mono ?_
  rintro r s ⟨rfl, ⟨hg, rfl⟩ | ⟨hg, rfl⟩⟩
  · refine ⟨rfl, ?_⟩
    unfold wOut
    rw [if_pos hg]
  · refine ⟨rfl, ?_⟩
    unfold wOut
    rw [if_neg hg]
    rfl
include hp hs hq in
theorem callW_gotW {s : St} {p r : Nat} {k : Rk} {ss : List Sec} (h : LentK s p k ss r) (hn : ss.length ≤ 1048576) (hsz : sumR ss ≤ 16777216) (hin : ∀ x ∈ ss, Sin x) (cap : Nat) :
    CallW pr 177 [.rsl 8 r 0 ss.length cap] s fun v s' => ∃ got j, v = .tup [got, .d (.i .i64 (wOut ss).2.2)] ∧ LR s' 1 got (wOut ss).2.1.length (ofDs (byteCells (wOut ss).2.1)) j ∧ Gr s s' (fun _ => False) (fun _ => True) ∧ ∀ z, j = some z → s.heap.length ≤ z := by
  have hsd : SlD 8 (secV (ss.map Sec.cp) true) ((ss.map Sec.cp).map Sec.cells) := ⟨sec_els _, true, by simp [secV]⟩
  refine (callW_WriteR hp hs hq (m := 2) (ss := ss.map Sec.cp) (seeA_one (h.see cap 0)) hsd (by rw [List.length_map]; omega) (by rw [cp_sumR]; omega) (cp_sin hin)).mono ?_
  rw [good_cp9, fileB_cp]
  rintro v s' (⟨hg, kk, rfl, rfl⟩ | ⟨hg, rfl, rfl⟩)
  · have hw : wOut ss = (true, fileB ss, 0) := by unfold wOut; rw [if_pos hg]
    rw [hw]
    refine ⟨_, some s.heap.length, rfl, ⟨by simp [ofDs, byteCells], .inr ⟨_, _, _, rfl, rfl, Nat.le_add_right _ _, row_push_new rfl, by simp; omega⟩⟩, .push _, fun z hz => by rw [Option.some.inj hz]; exact Nat.le_refl _⟩
  · have hw : wOut ss = (false, [], 92) := by unfold wOut; rw [if_neg hg]
    rw [hw]
    exact ⟨_, none, rfl, .nil _ _, .refl _ _ _, fun z hz => by cases hz⟩
include he in
theorem callW_sameE {s : St} {v : V} {nz : Bool} {L : List UInt8} (h : Byt s v L) : CallW pr 73 [v, bsl nz L] s fun r s' => s' = s ∧ r = .d (.b true) := by
  obtain ⟨nz', hs⟩ := see9 h 0
  have hden : den pr 73 [bsl nz' L, bsl nz L] st0 = some (.d (.b true), st0) := by
    refine den_shut (he.at 2 rfl) (as := [bsl nz' L, bsl nz L]) rfl rfl rfl ?_
    have hb2 : ∀ st nz, b2sV st (bsl nz L) = some (.d (.s L)) := fun st nz => (show Byt st (bsl nz L) L from ⟨rfl, rfl⟩).b2s
    have hx := hb2 (s0 [] [] 0 0) nz'
    have hy := hb2 (s0 [] [] 0 0) nz
    generalize bsl nz' L = x at hx ⊢
    generalize bsl nz L = y at hy ⊢
    simp [F73_spindlelaw0_SameBytes, hx, hy]
  refine .seen (k := 1) (as := [bsl nz' L, bsl nz L]) (seeA_two hs rfl) (CallW.of_den hden ?_)
  simp [FreshR, FreshV, D.flat, pushO, V.flat]
end
end Go.Sh
