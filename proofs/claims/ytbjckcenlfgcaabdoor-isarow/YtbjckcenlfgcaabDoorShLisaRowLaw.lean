/- The law IsaRow on shadow runs. -/
import Derived.Test.YtbjckcenlfgcaabDoorShLisaRow
set_option linter.unusedVariables false
set_option linter.unusedSimpArgs false
namespace Go.Sh
theorem cls_err : ∀ c ∈ classes, c.e = 0 ∨ c.e = 20 := by decide +kernel
theorem may_err {x : Ins} (h : mayV x ≠ 0) : mayV x = 20 ∨ mayV x = 21 := by
  unfold mayV at h ⊢
  split
  · rename_i hop
    rw [if_pos hop] at h
    split
    · rename_i c hc
      rw [hc] at h
      simp only at h
      obtain ⟨k, hk, hck⟩ := Option.bind_eq_some_iff.1 hc
      have := cls_err c (List.mem_of_getElem? hck)
      split
      · omega
      · rename_i he
        rw [if_neg he] at h
        split
        · rename_i hm
          rw [if_pos hm] at h
          exact absurd rfl h
        · exact .inr rfl
    · exact .inl rfl
  · exact .inl rfl
theorem may_not {x x' : Ins} {op : Nat} {c : OpC} (h : MayAt x op c) (ho : x'.op = x.op) (hn : c.d.may x' = false) : mayV x' = 21 := by
  have hl := h.lt
  have hop : x'.op = op := ho.trans h.opv
  have hop' : 0 ≤ x'.op ∧ x'.op ≤ 255 := by omega
  have hop'' : x'.op.toNat = op := by omega
  unfold mayV
  rw [if_pos hop', hop'', h.cls]
  simp [h.e, hn]
theorem and_3 (x : Int) : ∃ f : Nat, f < 4 ∧ bitI .and .i64 x 3 = some (.i .i64 f) := by
  refine ⟨((BitVec.ofInt 64 x) &&& (BitVec.ofInt 64 3)).toNat, ?_, ?_⟩
  · rw [BitVec.toNat_and]
    exact Nat.lt_of_le_of_lt Nat.and_le_right (by decide)
  · have hle : ((BitVec.ofInt 64 x) &&& (BitVec.ofInt 64 3)).toNat < 4 := by
      rw [BitVec.toNat_and]
      exact Nat.lt_of_le_of_lt Nat.and_le_right (by decide)
    show some (D.i .i64 (IntKind.wrap .i64 ((((BitVec.ofInt 64 x) &&& (BitVec.ofInt 64 3)).toNat : Nat) : Int))) = _
    rw [wrap_i64 (by omega) (by omega)]
section
variable {pr : Prog} (hI : IsaOk pr) (hp : Sub regFns pr)
include hI hp
theorem law_IsaRow (hw : Sub awFns pr) (hl : Sub lawRFns pr) (x : Ins) (field v : Int) {st : St} : CallW pr 119 [.agg (ofDs x.cells), .d (.i .i64 field), .d (.i .i64 v)] st fun r s => s = st ∧ r = .d (.b true) := by
  have ha := fun st => den_awake2 hI hw (st := st)
  have hm := fun st => den_may hI (st := st) x
  obtain ⟨f, hf4, hf⟩ := and_3 field
  by_cases h0 : mayV x ≠ 0
  · have hm : ∀ st, den pr 27 [.agg [.d (.i .i64 x.op), .d (.i .i64 x.dst), .d (.i .i64 x.src), .d (.i .i64 x.off), .d (.i .i64 x.imm)]] st = some (.d (.i .i64 (mayV x)), st) := hm
    refine .run0 wTells (hl.at 0 rfl) (by simp; rfl) rfl rfl (codeC_of ?_)
    rcases may_err h0 with he | he <;> simp [F119_spindlelaw2_IsaRow, Ins.cells, ofDs, hm, he, ha, wTells]
  have h0 : mayV x = 0 := by omega
  obtain ⟨op, c, h⟩ := may_at h0
  obtain ⟨c', hc', hcl, hform, hinfo, _⟩ := cls_facts hI op h.lt
  obtain rfl : c = c' := Option.some.inj (h.cls.symm.trans hcl)
  obtain ⟨w, r, hT, ⟨hno, _⟩ | ⟨op', c', hm', _, hwv, hrv⟩⟩ := tells hI hp x
  · exact absurd h0 hno
  have hww : Within w := by rw [hwv]; exact within_writes _ h0
  have hwr : Within r := by rw [hrv]; exact within_reads _ _ _
  have hw1 := fun st => den_within hl w hww hT.wl (st := st)
  have hw2 := fun st => den_within hl r hwr hT.rl (st := st)
  have hfix := fun st k => den_fixed hl op k v (st := st)
  have hTw := hT.hw
  have hTr := hT.hr
  have hcf := cls_fixed op h.lt
  rw [hcl] at hcf
  simp only [h.e, bne_self_eq_false, Bool.false_or, Bool.and_eq_true] at hcf
  obtain ⟨⟨hcf2, hcf3⟩, hcf1⟩ := hcf
  have hnm := fun x' => may_not (x' := x') h
  have he := h.e
  obtain ⟨iop, dst, src, off, imm⟩ := x
  have hop : iop = op := h.opv
  subst hop
  have hfin0 : c.d.dst = false → v ≠ 0 → mayV ⟨op, v, src, off, imm⟩ = 21 := fun hd hv => hnm _ rfl (by simp [OpD.may, hd, hv])
  have hfin1 : c.d.src = false → v ≠ 0 → v ∉ fixedL op 1 → mayV ⟨op, dst, v, off, imm⟩ = 21 := fun hd hv hn => hnm _ rfl (by
    cases hnd : c.d.named
    · simp [OpD.may, hd, hv, hnd]
    · rw [hnd] at hcf1
      have h1 : (1 : Int) ∈ fixedL op 1 := by simpa using hcf1
      have hv1 : v ≠ 1 := fun e => hn (e ▸ h1)
      simp [OpD.may, hd, hv, hnd, hv1])
  have hfin2 : c.d.off = false → v ≠ 0 → v ∉ fixedL op 2 → mayV ⟨op, dst, src, v, imm⟩ = 21 := fun hd hv hn => hnm _ rfl (by
    have : v ∉ c.d.offs := fun hm => by
      rw [hd, Bool.false_or] at hcf2
      have := of_decide_eq_true (List.all_eq_true.1 hcf2 v hm)
      rcases this with h | h
      · exact hv h
      · exact hn h
    simp [OpD.may, hd, this])
  have hfin3 : c.d.imm = false → v ≠ 0 → v ∉ fixedL op 3 → mayV ⟨op, dst, src, off, v⟩ = 21 := fun hd hv hn => hnm _ rfl (by
    have : v ∉ c.d.imms := fun hm => by
      rw [hd, Bool.false_or] at hcf3
      have := of_decide_eq_true (List.all_eq_true.1 hcf3 v hm)
      rcases this with h | h
      · exact hv h
      · exact hn h
    simp [OpD.may, hd, this])
  have hmf0 := fun st => den_may hI (st := st) ⟨op, v, src, off, imm⟩
  have hmf1 := fun st => den_may hI (st := st) ⟨op, dst, v, off, imm⟩
  have hmf2 := fun st => den_may hI (st := st) ⟨op, dst, src, v, imm⟩
  have hmf3 := fun st => den_may hI (st := st) ⟨op, dst, src, off, v⟩
  simp only [Ins.cells, ofDs, List.map_cons, List.map_nil, h0] at hm hmf0 hmf1 hmf2 hmf3 hTw hTr
  simp only [OpC.use] at hinfo
  generalize c.d.dst = ud at *
  generalize c.d.src = us at *
  generalize c.d.off = uo at *
  generalize c.d.imm = ui at *
  generalize mayV ⟨op, v, src, off, imm⟩ = m0 at *
  generalize mayV ⟨op, dst, v, off, imm⟩ = m1 at *
  generalize mayV ⟨op, dst, src, v, imm⟩ = m2 at *
  generalize mayV ⟨op, dst, src, off, v⟩ = m3 at *
  refine .run0 wTells (hl.at 0 rfl) (by simp; rfl) rfl rfl (codeC_of ?_)
  simp [F119_spindlelaw2_IsaRow, Ins.cells, ofDs, hm, hinfo, he, lay, wTells, hTw]
  refine (hTr _).mono ?_
  rintro u s ⟨rfl, rfl⟩
  simp [wTells, hw1, hw2, hf, fillV, lay, ofDs]
  rcases (by omega : f = 0 ∨ f = 1 ∨ f = 2 ∨ f = 3) with rfl | rfl | rfl | rfl
  · have hfix := fun st => hfix st 0
    cases ud
    · by_cases hv : v = 0
      · simp [wTells, iaddrAV, ha, fillV, lay, ofDs, hv]
      by_cases hn : v ∈ fixedL op 0
      · simp only [hn, decide_true] at hfix
        simp [wTells, iaddrAV, ha, fillV, lay, ofDs, hv, hfix]
      rw [hfin0 rfl hv] at hmf0
      simp only [hn, decide_false] at hfix
      simp [wTells, iaddrAV, ha, fillV, lay, ofDs, hv, hfix, hmf0]
    · simp [wTells, iaddrAV, ha, fillV, lay, ofDs]
  · have hfix := fun st => hfix st 1
    cases us
    · by_cases hv : v = 0
      · simp [wTells, iaddrAV, ha, fillV, lay, ofDs, hv]
      by_cases hn : v ∈ fixedL op 1
      · simp only [hn, decide_true] at hfix
        simp [wTells, iaddrAV, ha, fillV, lay, ofDs, hv, hfix]
      rw [hfin1 rfl hv hn] at hmf1
      simp only [hn, decide_false] at hfix
      simp [wTells, iaddrAV, ha, fillV, lay, ofDs, hv, hfix, hmf1]
    · simp [wTells, iaddrAV, ha, fillV, lay, ofDs]
  · have hfix := fun st => hfix st 2
    cases uo
    · by_cases hv : v = 0
      · simp [wTells, iaddrAV, ha, fillV, lay, ofDs, hv]
      by_cases hn : v ∈ fixedL op 2
      · simp only [hn, decide_true] at hfix
        simp [wTells, iaddrAV, ha, fillV, lay, ofDs, hv, hfix]
      rw [hfin2 rfl hv hn] at hmf2
      simp only [hn, decide_false] at hfix
      simp [wTells, iaddrAV, ha, fillV, lay, ofDs, hv, hfix, hmf2]
    · simp [wTells, iaddrAV, ha, fillV, lay, ofDs]
  · have hfix := fun st => hfix st 3
    cases ui
    · by_cases hv : v = 0
      · simp [wTells, iaddrAV, ha, fillV, lay, ofDs, hv]
      by_cases hn : v ∈ fixedL op 3
      · simp only [hn, decide_true] at hfix
        simp [wTells, iaddrAV, ha, fillV, lay, ofDs, hv, hfix]
      rw [hfin3 rfl hv hn] at hmf3
      simp only [hn, decide_false] at hfix
      simp [wTells, iaddrAV, ha, fillV, lay, ofDs, hv, hfix, hmf3]
    · simp [wTells, iaddrAV, ha, fillV, lay, ofDs]
end
end Go.Sh
