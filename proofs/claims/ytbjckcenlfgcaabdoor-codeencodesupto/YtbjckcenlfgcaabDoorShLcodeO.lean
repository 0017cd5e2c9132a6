/- The law CodeEncodes on shadow runs. -/
import Derived.Test.YtbjckcenlfgcaabDoorShLcodeN
import Derived.Test.YtbjckcenlfgcaabDoorShLbookG
set_option linter.unusedVariables false
set_option linter.unusedSimpArgs false
namespace Go.Sh
theorem BkI.grA {st s : St} {p : Nat} {b : Bk} {A : Nat → Prop} {P : V → Prop} (h : BkI st p b) (g : Gr st s A P) (hl : ∀ a r, b.lab p a = some r → ¬ A r) (hv : ∀ v, v ∈ b.kv ∨ v ∈ b.wv → ∀ r, foot v = some r → ¬ A r) : BkI s p b := by
  refine ⟨g.floor.trans h.fl, (g.keep p (row_lt h.row) (hl 0 p rfl)).trans h.row, h.F.gr g (hl 1), h.H.gr g (hl 2), h.M.gr g (hl 3), h.K.gr g (hl 4), h.W.gr g (hl 5), fun x hx => (h.fr x hx).gr g fun r hr => ?_, fun i k w hk hw => ?_, h.sep, h.out, h.small, h.size, h.total⟩
  · obtain ⟨i, hi⟩ := List.mem_iff_getElem?.1 hx
    exact hl (i + 6) r (by simp [Bk.lab, hi, hr])
  · obtain ⟨L, h1, h2⟩ := h.kw i k w hk hw
    exact ⟨L, h1.gr g (hv k (.inl (List.mem_of_getElem? hk))), h2.gr g (hv w (.inr (List.mem_of_getElem? hw)))⟩
/-- A book, and lent instructions. -/
structure CW (s : St) (p i : Nat) (b : Bk) (ts : List Ins) : Prop where
  bk : BkI s p b
  lent : LentC s i ts
  frl : b.fr.length ≤ 2
  off : (∀ a, b.lab p a ≠ some i) ∧ ∀ v, v ∈ b.kv ∨ v ∈ b.wv → foot v ≠ some i
theorem CW.lt {s : St} {p i : Nat} {b : Bk} {ts : List Ins} (h : CW s p i b ts) : i < s.heap.length := row_lt h.lent
def lawEFns : List (Nat × SFn) := [(135, F135_spindlelaw3_CodeEncodes)]
def wE : Nat → Bool := fun f => f == 2 || f == 70 || f == 73 || f == 4 || f == 126
def Off (b : Bk) (p r : Nat) : Prop := (∀ a, b.lab p a ≠ some r) ∧ ∀ v, v ∈ b.kv ∨ v ∈ b.wv → foot v ≠ some r
theorem OW.off {st s : St} {p n : Nat} {b b' : Bk} {j : Option Nat} (h : OW st s p b b' n j) {r : Nat} (ho : Off b p r) (hj : j ≠ some r) (hr : r < st.heap.length) : Off b' p r ∧ ¬ ((∃ a, b.lab p a = some r) ∨ j = some r ∨ st.heap.length ≤ r) := by
  have hA : ¬ ((∃ a, b.lab p a = some r) ∨ j = some r ∨ st.heap.length ≤ r) := by
    rintro (⟨a, e⟩ | e | e)
    · exact ho.1 a e
    · exact hj e
    · omega
  refine ⟨⟨fun a e => hA (h.lo a r e), fun v hv e => ?_⟩, hA⟩
  rcases h.vo v hv r e with (⟨v0, h0, h1⟩ | e | e) | e
  · exact ho.2 v0 h0 h1
  · exact hA (.inl e)
  · omega
  · exact hj e
theorem BkI.offNew {st : St} {p : Nat} {b : Bk} (h : BkI st p b) {r : Nat} (hr : st.heap.length ≤ r) : Off b p r := by
  refine ⟨fun a e => ?_, fun v hv e => ?_⟩
  · have := h.lablt a r e; omega
  · have hwl : b.wv.length = b.kv.length := by simpa using h.W.1
    have : ∃ L, Byt st v L := by
      rcases hv with hv | hv
      · obtain ⟨i, hi⟩ := List.mem_iff_getElem?.1 hv
        have hlt := (List.getElem?_eq_some_iff.1 hi).1
        obtain ⟨w, hw⟩ : ∃ w, b.wv[i]? = some w := ⟨_, List.getElem?_eq_getElem (by omega)⟩
        obtain ⟨L, h1, _⟩ := h.kw i v w hi hw
        exact ⟨L, h1⟩
      · obtain ⟨i, hi⟩ := List.mem_iff_getElem?.1 hv
        have hlt := (List.getElem?_eq_some_iff.1 hi).1
        obtain ⟨w, hw⟩ : ∃ w, b.kv[i]? = some w := ⟨_, List.getElem?_eq_getElem (by omega)⟩
        obtain ⟨L, _, h1⟩ := h.kw i w v hw hi
        exact ⟨L, h1⟩
    obtain ⟨L, hb⟩ := this
    have := hb.lt e; omega
def bk0 : Bk := ⟨0, 0, .d (.sl 0 false []), .d (.sl 0 false []), .d (.sl 0 false []), .d (.sl 0 false []), .d (.sl 0 false []), none, none, none, none, none, [], [], [], []⟩
theorem bk0_lab {p : Nat} : ∀ a i, bk0.lab p a = some i → a = 0 ∧ i = p := by
  intro a i h
  match a, h with
  | 0, h => exact ⟨rfl, (Option.some.inj h).symm⟩
  | 1, h => cases h
  | 2, h => cases h
  | 3, h => cases h
  | 4, h => cases h
  | 5, h => cases h
  | a + 6, h => simp [Bk.lab, bk0] at h
theorem bk0_ok {st : St} {p : Nat} (hf : st.floor = 0) (hr : st.row p = some [.d (.i .i64 0), .d (.i .i64 0), .d (.b false), .d (.sl 0 false []), .d (.sl 0 false []), .d (.sl 0 false []), .d (.sl 0 false []), .d (.sl 0 false [])]) : BkI st p bk0 :=
  ⟨hf, hr, .nil _ _, .nil _ _, .nil _ _, .nil _ _, .nil _ _, fun x hx => (List.not_mem_nil hx).elim, fun i k w hk => by simp [bk0] at hk, fun a c i ha hc => by rw [(bk0_lab a i ha).1, (bk0_lab c i hc).1], fun v hv => by simp [bk0] at hv, ⟨by simp [bk0], by simp [bk0]⟩, fun x hx => (List.not_mem_nil hx).elim, by simp [bk0]⟩
theorem see1_of {st : St} {m : Nat} {x y : V} (h : seeA st m [x] = some [y]) : see1 st m x = some y := by
  simp only [seeA] at h
  cases h1 : see1 st m x with
  | none => rw [h1] at h; cases h
  | some z =>
    rw [h1] at h
    simp only [Option.some.injEq, List.cons.injEq, and_true] at h
    rw [h]
theorem callW_sameB {pr : Prog} (hq : Sub law3Fns pr) {s : St} {v : V} {nz : Bool} {L : List UInt8} (h : Byt s v L) : CallW pr 73 [v, bsl nz L] s fun r s' => s' = s ∧ r = .d (.b true) := by
  obtain ⟨nz', hs⟩ := h.see 0
  have hden := den_sameB hq (st := st0) (nz := nz') (nz' := nz) (L := L) (L' := L)
  refine .seen (k := 1) (as := [bsl nz' L, bsl nz L]) (seeA_two (see1_of hs) rfl) (CallW.of_den hden ?_)
  simp [FreshR, FreshV, D.flat, pushO, V.flat]
section
variable {pr : Prog} (hI : IsaOk pr) (hR : RefOk pr) (hc : Sub codeFns pr) (hb : Sub bookFns pr) (hd : Sub lendFns pr) (hr : Sub refEFns pr) (hq : Sub law3Fns pr) (hw : Sub lawEFns pr) (haw : ∀ st, den pr 69 [] st = some (.d (.b true), st))
include hI hR hc hb hd hr hq hw haw
theorem law_CodeEncodes (nz : Bool) (is : List Ins) (hn : is.length ≤ 1048576) {st : St} : CallW pr 135 [dsl Ins.cells nz is] st fun v s => s = st ∧ v = .d (.b true) := by
  obtain ⟨u, hu⟩ : ∃ u, u = dsl Ins.cells nz is := ⟨_, rfl⟩
  have hd5 := dsl_d insC nz is
  rw [← hu] at hd5 ⊢
  refine .run0 wE (hw.at 0 rfl) (show closeA [u] = some [u] by rw [hu]; rfl) rfl rfl (codeC_of ?_)
  have hlen := hd5.len
  rw [List.length_map] at hlen
  obtain ⟨s1, hs1⟩ : ∃ s1, s1 = s0 [.row [.d (.i .i64 0), .d (.i .i64 0), .d (.b false), .d (.sl 0 false []), .d (.sl 0 false []), .d (.sl 0 false []), .d (.sl 0 false []), .d (.sl 0 false [])]] [] 0 0 := ⟨_, rfl⟩
  have hs1l : s1.heap.length = 1 := by rw [hs1]; rfl
  obtain ⟨s2, hlend, hlc, g2⟩ := den_LendI hd (st := s1) (by rw [hs1]; rfl) hd5 (by omega)
  rw [hs1l] at hlend hlc
  rw [hs1] at hlend
  simp [F135_spindlelaw3_CodeEncodes, wE, haw, ofDs, fillV, lay, hlend]
  refine loopW_j wE (fun n e s => ∃ (k : Nat) (b : Bk) (ts : List Ins), k ≤ 4 ∧ n = 4 - k ∧ e = [(0, u), (3, .ptr 0 0), (4, .rsl 5 1 0 is.length (2 * is.length + 70)), (5, .d (.i .i64 k))] ∧ CW s 0 1 b ts ∧ ts.length = is.length ∧ b.kv.length ≤ 36 * k ∧ b.total ≤ 40000000 * k) ?_ (n := 4) ?_
  rotate_left
  · have b0 : BkI s1 0 bk0 := by rw [hs1]; exact bk0_ok rfl rfl
    have o0 : Off bk0 0 1 := ⟨fun a e => by have := (bk0_lab a 1 e).2; omega, fun v hv => by simp [bk0] at hv⟩
    exact ⟨0, bk0, is, Nat.zero_le _, rfl, by simp, ⟨b0.grA g2 (fun _ _ _ e => e) fun _ _ _ _ e => e, hlc, by simp [bk0], o0⟩, rfl, by simp [bk0], by simp [bk0]⟩
  rintro n e s ⟨k, b, ts, hk, rfl, rfl, hcw, htl, hkl, ht⟩
  rcases Nat.lt_or_ge k 4 with hlt | hge
  rotate_left
  · have : k = 4 := by omega
    subst this
    simp [F135_spindlelaw3_CodeEncodes_b0, esc, esc1, escC]
  have hk3 : (k : Int) ≤ 3 := by omega
  simp [F135_spindlelaw3_CodeEncodes_b0, wE, hk3]
  refine (callW_TurnedI hd hq hu (by omega) (k : Int)).mono ?_
  rintro v s' ⟨rfl, rs, nzr, rfl, hrl⟩
  have hrd := dsl_d insC nzr rs
  -- copied
  have hR0 := hcw.lent
  have hcpy := cpy_first (c := is.length) (m := 2 * is.length + 70) hcw.bk.fl hR0 (by rw [List.length_append, cells5, htl]; omega) hrd (by omega)
  simp [wE, hcpy]
  have hN : (ofDs (rs.map Ins.cells).flatten ++ (ofDs (ts.map Ins.cells).flatten ++ (bI (2 * ts.length + 70)).drop (ts.length * 5)).drop (rs.length * 5)) = ofDs (rs.map Ins.cells).flatten ++ (bI (2 * rs.length + 70)).drop (rs.length * 5) := by
    rw [hrl, ← htl, List.drop_left' (cells5 ts)]
  rw [hN]
  obtain ⟨s3, hs3⟩ : ∃ s3, s3 = s'.put 1 (ofDs (rs.map Ins.cells).flatten ++ (bI (2 * rs.length + 70)).drop (rs.length * 5)) := ⟨_, rfl⟩
  rw [← hs3]
  have g3 : Gr s' s3 (fun r => r = 1) (fun _ => True) := by
    rw [hs3]
    refine .put hR0 ?_ rfl fun _ _ _ => .inr trivial
    rw [List.length_append, List.length_append, cells5, cells5, hrl, htl]
  have h3 : CW s3 0 1 b rs := ⟨hcw.bk.grA g3 (fun a r hr e => hcw.off.1 a (e ▸ hr)) fun v hv r hr e => hcw.off.2 v hv (e ▸ hr), by rw [hs3]; exact row_put_eq hcw.lt, hcw.frl, hcw.off⟩
  obtain ⟨nzw, L, a, m, hre, hLl, henc⟩ : ∃ nzw L a m, refEnc rs = .tup [bsl nzw L, .d (.i .i64 a), .d (.i .i64 m)] ∧ L.length ≤ 16 * rs.length ∧ ∀ s4, LentC s4 1 rs → CallW pr 70 [.rsl 5 1 0 is.length (2 * is.length + 70)] s4 fun r s5 => ∃ got j, r = .tup [got, .d (.i .i64 a), .d (.i .i64 m)] ∧ LR s5 1 got L.length (ofDs (byteCells L)) j ∧ Gr s4 s5 (fun _ => False) (fun _ => True) ∧ ∀ r, j = some r → s4.heap.length = r := by
    have hcall := fun s4 (h : LentC s4 1 rs) => callW_Encode (m := 1) hI hc (st := s4) (v := .rsl 5 1 0 is.length (2 * is.length + 70)) (seeA_one (by rw [← hrl]; exact h.see _ 0)) (dsl_d insC true rs) (by omega)
    cases hf : firstBad rs with
    | none =>
      have hsl := slotsOf_le rs
      refine ⟨_, iencs rs, 0, 0, by rw [refEnc, hf], by rw [iencs_len]; omega, fun s4 h => (hcall s4 h).mono ?_⟩
      rintro v s5 (⟨k, _, rfl, rfl⟩ | ⟨i, hi, _⟩)
      · exact ⟨_, some s4.heap.length, rfl, ⟨by simp [ofDs, byteCells], .inr ⟨_, _, _, rfl, rfl, Nat.le_add_right _ _, row_push_new rfl, by simp; omega⟩⟩, .push _, fun r hr => Option.some.inj hr⟩
      · rw [hf] at hi; cases hi
    | some i =>
      refine ⟨false, [], i, _, by rw [refEnc, hf]; rfl, by simp, fun s4 h => (hcall s4 h).mono ?_⟩
      rintro v s5 (⟨k, hi, _⟩ | ⟨i', hi, rfl, rfl⟩)
      · rw [hf] at hi; cases hi
      · rw [hf] at hi
        obtain rfl := Option.some.inj hi
        exact ⟨_, none, rfl, .nil _ _, .refl _ _ _, fun r hr => by cases hr⟩
  have href := fun st => den_refEncode hR hr (st := st) hrd.c (by omega)
  rw [hre] at href
  simp [wE, href]
  refine (henc s3 h3.lent).mono ?_
  rintro v s4 ⟨got, j, rfl, hg, g4, hj⟩
  simp [wE]
  have l4 : LentC s4 1 rs := (g4.keep 1 h3.lt fun e => e).trans h3.lent
  refine (henc s4 l4).mono ?_
  rintro v s5 ⟨got2, j2, rfl, hg2, g5, hj2⟩
  have hnum := fun x st => den_num3 hq (st := st) x
  have hg5 := hg.gr g5 fun _ _ e => e
  have l5 : LentC s5 1 rs := (g5.keep 1 (row_lt l4) fun e => e).trans l4
  simp [wE, hnum]
  refine (callW_sameB hq (hg5.byt).1).mono ?_
  rintro v s5' ⟨rfl, rfl⟩
  simp [wE]
  refine (callW_sameB hq (hg2.byt).1).mono ?_
  rintro v s5'' ⟨rfl, rfl⟩
  simp [wE]
  have hback := callW_BackI hd hq (u := dsl Ins.cells nzr rs) (nz := nzr) l5 rfl (by omega)
  rw [hrl] at hback
  refine hback.mono ?_
  rintro v s6 ⟨rfl, rfl⟩
  simp [wE]
  -- the book
  have bk4 : BkI s4 0 b := h3.bk.grA g4 (fun _ _ _ e => e) fun _ _ _ _ e => e
  have bk6 : BkI s6 0 b := bk4.grA g5 (fun _ _ _ e => e) fun _ _ _ _ e => e
  have hlen4 := g4.len
  have hlen5 := g5.len
  have hoj : ∀ r, j = some r → Off b 0 r := fun r hr => h3.bk.offNew (by have := hj r hr; omega)
  have hoj2 : ∀ r, j2 = some r → Off b 0 r := fun r hr => h3.bk.offNew (by have := hj2 r hr; omega)
  have hLb : L.length ≤ 16777216 := by omega
  refine callW_Own hb bk6 hg5 hoj (by omega) _ h3.frl (by omega) (by omega) ?_
  intro s7 b7 o7
  have h1j : j ≠ some 1 := fun e => by have := hj 1 e; have := h3.lt; omega
  have h1lt : 1 < s6.heap.length := row_lt l5
  obtain ⟨off7, n7⟩ := o7.off (r := 1) h3.off h1j h1lt
  have l7 : LentC s7 1 rs := (o7.gr.keep 1 h1lt n7).trans l5
  have hj2o : ∀ r, j2 = some r → Off b7 0 r ∧ ¬ ((∃ a, b.lab 0 a = some r) ∨ j = some r ∨ s6.heap.length ≤ r) := fun r hr => o7.off (hoj2 r hr) (fun e => by
    have h1 := hj r e
    have h2 := hj2 r hr
    have h3' := hg.lt e
    omega) (hg2.lt hr)
  have hg7 := hg2.gr o7.gr fun r hr => (hj2o r hr).2
  have hh7 := o7.kl
  have ht7 := o7.total
  simp [wE]
  refine callW_Own hb o7.bk hg7 (fun r hr => (hj2o r hr).1) (by omega) _ o7.frl (by omega) (by omega) ?_
  intro s8 b8 o8
  have hlen7 := o7.gr.len
  obtain ⟨off8, n8⟩ := o8.off (r := 1) off7 (fun e => by have := hj2 1 e; have := h3.lt; omega) (by omega)
  have l8 : LentC s8 1 rs := (o8.gr.keep 1 (by omega) n8).trans l7
  have hholds := den_Holds hb o8.bk
  have w1 : IntKind.wrap .i64 ((k : Int) + 1) = k + 1 := wrap_i64 (by omega) (by omega)
  have hh8 := o8.kl
  have ht8 := o8.total
  simp [wE, hholds, w1]
  exact ⟨4 - (k + 1), by omega, k + 1, by omega, rfl, rfl, b8, rs, ⟨o8.bk, l8, o8.frl, off8⟩, hrl, by omega, by omega⟩
end
end Go.Sh
