/- isa.Reads. -/
import Derived.Test.YtnemobbnlacmjaaDoorShLisaRegsV
set_option linter.unusedVariables false
set_option linter.unusedSimpArgs false
namespace Go.Sh
def wReads : Nat → Bool := fun _ => false
def outV (f : Int) (us : Bool) (x : Ins) : List Int := (if f = 6 ∧ x.imm = 241 then [0] else []) ++ ((if f = 6 ∨ f = 5 ∨ f = 8 ∨ f = 2 ∨ f = 3 ∧ isMov x = false then [x.dst] else []) ++ (if us then [x.src] else []))
def readsI (f : Int) (us : Bool) (x : Ins) : List Int := if f = 9 then callV x else if f = 1 then [0] else ddp (srt (outV f us x))
section
variable {pr : Prog} (hI : IsaOk pr) (hp : Sub regFns pr) {st : St}
include hI hp
theorem callW_Reads_no {x : Ins} (h : mayV x ≠ 0) : CallW pr 83 [.agg (ofDs x.cells)] st fun v s => s = st ∧ v = isl [] := by
  have hm : ∀ st, den pr 27 [.agg [.d (.i .i64 x.op), .d (.i .i64 x.dst), .d (.i .i64 x.src), .d (.i .i64 x.off), .d (.i .i64 x.imm)]] st = some (.d (.i .i64 (mayV x)), st) := fun st => den_may hI (st := st) x
  obtain ⟨u, e, hinfo⟩ : ∃ (u : List V) (e : Int), (∀ st, den pr 11 [.d (.i .i64 x.op)] st = some (.tup [.agg u, .d (.i .i64 e)], st)) ∧ ∃ a b c d e' f, u = [.d (.i .i64 a), .d (.i .i64 b), .d (.b c), .d (.b d), .d (.b e'), .d (.b f)] := by
    by_cases ho : 0 ≤ x.op ∧ x.op ≤ 255
    · obtain ⟨op, hop⟩ : ∃ op : Nat, x.op = op := ⟨x.op.toNat, by omega⟩
      obtain ⟨c, _, _, _, h2, _⟩ := cls_facts hI op (by omega)
      rw [hop]
      exact ⟨_, _, h2, _, _, _, _, _, _, rfl⟩
    · exact ⟨_, _, fun st => info_out hI x.op (by omega), _, _, _, _, _, _, rfl⟩
  obtain ⟨hinfo, a, b, c, d, e', f, rfl⟩ := hinfo
  refine .run0 wReads (hp.at 2 rfl) (by simp; rfl) rfl rfl (codeC_of ?_)
  simp [F83_isa_Reads, wReads, Ins.cells, ofDs, hm, hinfo, h, lay, isl, icl]
theorem callW_Reads {x : Ins} {op : Nat} {c : OpC} (h : MayAt x op c) (h0 : mayV x = 0) : CallW pr 83 [.agg (ofDs x.cells)] st fun v s => s = st ∧ v = isl (readsI c.form c.d.src x) := by
  have hm := fun st => den_may hI (st := st) x
  obtain ⟨c', hc', hcl, hform, hinfo, _⟩ := cls_facts hI op h.lt
  obtain rfl : c = c' := Option.some.inj (h.cls.symm.trans hcl)
  obtain ⟨hu, _⟩ := cls_shape c h.mem h.e
  have h09 := fun st => den_run (pr := pr) hp (st := st) (a := 0) (b := 9) (l := [0, 1, 2, 3, 4, 5, 6, 7, 8, 9]) (by simp)
  have h12 := fun st => den_run (pr := pr) hp (st := st) (a := 1) (b := 2) (l := [1, 2]) (by simp)
  have h14 := fun st => den_run (pr := pr) hp (st := st) (a := 1) (b := 4) (l := [1, 2, 3, 4]) (by simp)
  obtain ⟨iop, dst, src, off, imm⟩ := x
  have hop : iop = op := h.opv
  subst hop
  have hrange := may_range h0
  simp only at hrange
  have hmov : c.form = 3 → (op &&& 240 = 176 ↔ isMov ⟨op, dst, src, off, imm⟩ = true) := by
    intro h3
    have := cls_mov op h.lt
    rw [h.cls] at this
    simp only [h3, decide_true, Bool.true_and, bne_eq_false_iff_eq, decide_eq_decide] at this
    rw [this]
    simp only [isMov, decide_eq_true_eq]
    omega
  have hband : bitI .and .i64 (op : Int) 240 = some (.i .i64 ((op &&& 240 : Nat) : Int)) := by
    have h0 := h.lt
    have := and_nat .i64 op 240 (by simp [IntKind.bits]; omega) (by simp [IntKind.bits])
    have hle : op &&& 240 ≤ 240 := Nat.and_le_right
    rw [wrap_i64 (by omega) (by omega)] at this
    exact this
  simp only [Ins.cells, ofDs, List.map_cons, List.map_nil, h0] at hm
  simp only [OpC.use, hu] at hinfo
  generalize c.form = f at *
  generalize c.d.src = us at *
  generalize c.d.dst = ud at *
  generalize c.d.off = uo at *
  generalize c.d.imm = ui at *
  by_cases f9 : f = 9
  · by_cases s1 : src = 1
    · have s1 : (src = 1) = True := eq_true s1
      refine .run0 wReads (hp.at 2 rfl) (by simp; rfl) rfl rfl (codeC_of ?_)
      simp [F83_isa_Reads, wReads, Ins.cells, ofDs, hm, hinfo, lay, f9, readsI, callV, s1, h09]
    by_cases i1 : imm = 1
    · have i1 : (imm = 1) = True := eq_true i1
      refine .run0 wReads (hp.at 2 rfl) (by simp; rfl) rfl rfl (codeC_of ?_)
      simp [F83_isa_Reads, wReads, Ins.cells, ofDs, hm, hinfo, lay, f9, readsI, callV, s1, i1, h12]
    by_cases i4 : imm = 4
    · have i4 : (imm = 4) = True := eq_true i4
      refine .run0 wReads (hp.at 2 rfl) (by simp; rfl) rfl rfl (codeC_of ?_)
      simp [F83_isa_Reads, wReads, Ins.cells, ofDs, hm, hinfo, lay, f9, readsI, callV, s1, i1, i4, h12]
    by_cases i2 : imm = 2
    · have i2 : (imm = 2) = True := eq_true i2
      refine .run0 wReads (hp.at 2 rfl) (by simp; rfl) rfl rfl (codeC_of ?_)
      simp [F83_isa_Reads, wReads, Ins.cells, ofDs, hm, hinfo, lay, f9, readsI, callV, s1, i1, i4, i2, h14]
    · refine .run0 wReads (hp.at 2 rfl) (by simp; rfl) rfl rfl (codeC_of ?_)
      simp [F83_isa_Reads, wReads, Ins.cells, ofDs, hm, hinfo, lay, f9, readsI, callV, s1, i1, i4, i2, isl, icl]
  by_cases f1 : f = 1
  · refine .run0 wReads (hp.at 2 rfl) (by simp; rfl) rfl rfl (codeC_of ?_)
    simp [F83_isa_Reads, wReads, Ins.cells, ofDs, hm, hinfo, lay, f1, readsI, isl, icl, ic, reps, fillV]
  refine .run0 wReads (hp.at 2 rfl) (by simp; rfl) rfl rfl (codeC_of ?_)
  have hout : OutL (.row [.d (.i .i64 op), .d (.i .i64 dst), .d (.i .i64 src), .d (.i .i64 off), .d (.i .i64 imm)]) (.row [.d (.i .i64 f), .d (.i .i64 c.group), .d (.b ud), .d (.b us), .d (.b uo), .d (.b ui)]) [] [] (.d (.sl 0 false [])) := .inl ⟨rfl, rfl⟩
  have hend : readsI f us ⟨op, dst, src, off, imm⟩ = ddp (srt (outV f us ⟨op, dst, src, off, imm⟩)) := by simp [readsI, f9, f1]
  rw [hend]
  by_cases f6 : f = 6
  · simp only [f6] at hout
    by_cases i241 : imm = 241
    · have i241' : (imm = 241) = True := eq_true i241
      rw [i241] at hout
      simp [F83_isa_Reads, wReads, Ins.cells, ofDs, hm, hinfo, lay, reps, fillV, f6, i241']
      refine app_out hout (by simp) fun rest' v' hv' => ?_
      simp [wReads, reps, fillV, ofDs, lay]
      refine app_out hv' (by simp) fun rest' v' hv' => ?_
      cases us
      · obtain ⟨st1, st2, w, e1, e2, e3⟩ := out_fin hp hv' (.inr (.inl ⟨_, _, rfl⟩))
        simp [wReads, reps, fillV, ofDs, lay, e1, e2, e3, outV, i241']
      · simp [wReads, reps, fillV, ofDs, lay]
        refine app_out hv' (by simp) fun rest' v' hv' => ?_
        obtain ⟨st1, st2, w, e1, e2, e3⟩ := out_fin hp hv' (.inr (.inr (.inl ⟨_, _, _, rfl, by omega, by omega⟩)))
        simp [wReads, reps, fillV, ofDs, lay, e1, e2, e3, outV, i241']
    · simp [F83_isa_Reads, wReads, Ins.cells, ofDs, hm, hinfo, lay, reps, fillV, f6, i241]
      refine app_out hout (by simp) fun rest' v' hv' => ?_
      cases us
      · obtain ⟨st1, st2, w, e1, e2, e3⟩ := out_fin hp hv' (.inl ⟨_, rfl⟩)
        simp [wReads, reps, fillV, ofDs, lay, i241, e1, e2, e3, outV]
      · simp [wReads, reps, fillV, ofDs, lay, i241]
        refine app_out hv' (by simp) fun rest' v' hv' => ?_
        obtain ⟨st1, st2, w, e1, e2, e3⟩ := out_fin hp hv' (.inr (.inl ⟨_, _, rfl⟩))
        simp [wReads, reps, fillV, ofDs, lay, i241, e1, e2, e3, outV]
  by_cases f5 : f = 5
  · simp only [f5] at hout
    simp [F83_isa_Reads, wReads, Ins.cells, ofDs, hm, hinfo, lay, reps, fillV, f5]
    refine app_out hout (by simp) fun rest' v' hv' => ?_
    cases us
    · obtain ⟨st1, st2, w, e1, e2, e3⟩ := out_fin hp hv' (.inl ⟨_, rfl⟩)
      simp [wReads, reps, fillV, ofDs, lay, isMov, e1, e2, e3, outV]
    · simp [wReads, reps, fillV, ofDs, lay, isMov]
      refine app_out hv' (by simp) fun rest' v' hv' => ?_
      obtain ⟨st1, st2, w, e1, e2, e3⟩ := out_fin hp hv' (.inr (.inl ⟨_, _, rfl⟩))
      simp [wReads, reps, fillV, ofDs, lay, isMov, e1, e2, e3, outV]
  by_cases f8 : f = 8
  · simp only [f8] at hout
    simp [F83_isa_Reads, wReads, Ins.cells, ofDs, hm, hinfo, lay, reps, fillV, f8]
    refine app_out hout (by simp) fun rest' v' hv' => ?_
    cases us
    · obtain ⟨st1, st2, w, e1, e2, e3⟩ := out_fin hp hv' (.inl ⟨_, rfl⟩)
      simp [wReads, reps, fillV, ofDs, lay, isMov, e1, e2, e3, outV]
    · simp [wReads, reps, fillV, ofDs, lay, isMov]
      refine app_out hv' (by simp) fun rest' v' hv' => ?_
      obtain ⟨st1, st2, w, e1, e2, e3⟩ := out_fin hp hv' (.inr (.inl ⟨_, _, rfl⟩))
      simp [wReads, reps, fillV, ofDs, lay, isMov, e1, e2, e3, outV]
  by_cases f2 : f = 2
  · simp only [f2] at hout
    simp [F83_isa_Reads, wReads, Ins.cells, ofDs, hm, hinfo, lay, reps, fillV, f2]
    refine app_out hout (by simp) fun rest' v' hv' => ?_
    cases us
    · obtain ⟨st1, st2, w, e1, e2, e3⟩ := out_fin hp hv' (.inl ⟨_, rfl⟩)
      simp [wReads, reps, fillV, ofDs, lay, isMov, e1, e2, e3, outV]
    · simp [wReads, reps, fillV, ofDs, lay, isMov]
      refine app_out hv' (by simp) fun rest' v' hv' => ?_
      obtain ⟨st1, st2, w, e1, e2, e3⟩ := out_fin hp hv' (.inr (.inl ⟨_, _, rfl⟩))
      simp [wReads, reps, fillV, ofDs, lay, isMov, e1, e2, e3, outV]
  by_cases f3 : f = 3
  · simp only [f3] at hout
    by_cases hmv : isMov ⟨op, dst, src, off, imm⟩ = true
    · have h176 : ((op &&& 240 : Nat) : Int) = 176 := by rw [(hmov f3).2 hmv]; rfl
      rw [h176] at hband
      simp [F83_isa_Reads, wReads, Ins.cells, ofDs, hm, hinfo, lay, reps, fillV, f3, hband]
      have hv' := hout
      cases us
      · obtain ⟨st1, st2, w, e1, e2, e3⟩ := out_fin hp hv' (.inr (.inr (.inr rfl)))
        simp [wReads, reps, fillV, ofDs, lay, hmv, e1, e2, e3, outV]
      · simp [wReads, reps, fillV, ofDs, lay, hmv]
        refine app_out hv' (by simp) fun rest' v' hv' => ?_
        obtain ⟨st1, st2, w, e1, e2, e3⟩ := out_fin hp hv' (.inl ⟨_, rfl⟩)
        simp [wReads, reps, fillV, ofDs, lay, hmv, e1, e2, e3, outV]
    · have h176 : ¬ ((op &&& 240 : Nat) : Int) = 176 := fun e => hmv ((hmov f3).1 (by omega))
      have hmv' : isMov ⟨op, dst, src, off, imm⟩ = false := by simpa using hmv
      generalize ((op &&& 240 : Nat) : Int) = b at *
      simp [F83_isa_Reads, wReads, Ins.cells, ofDs, hm, hinfo, lay, reps, fillV, f3, hband, h176]
      refine app_out hout (by simp) fun rest' v' hv' => ?_
      cases us
      · obtain ⟨st1, st2, w, e1, e2, e3⟩ := out_fin hp hv' (.inl ⟨_, rfl⟩)
        simp [wReads, reps, fillV, ofDs, lay, hmv', e1, e2, e3, outV]
      · simp [wReads, reps, fillV, ofDs, lay, hmv']
        refine app_out hv' (by simp) fun rest' v' hv' => ?_
        obtain ⟨st1, st2, w, e1, e2, e3⟩ := out_fin hp hv' (.inr (.inl ⟨_, _, rfl⟩))
        simp [wReads, reps, fillV, ofDs, lay, hmv', e1, e2, e3, outV]
  simp [F83_isa_Reads, wReads, Ins.cells, ofDs, hm, hinfo, lay, reps, fillV, f9, f1, f6, f5, f8, f2, f3]
  have hv' := hout
  cases us
  · obtain ⟨st1, st2, w, e1, e2, e3⟩ := out_fin hp hv' (.inr (.inr (.inr rfl)))
    simp [wReads, reps, fillV, ofDs, lay, f9, f1, f6, f5, f8, f2, f3, e1, e2, e3, outV]
  · simp [wReads, reps, fillV, ofDs, lay, f9, f1, f6, f5, f8, f2, f3]
    refine app_out hv' (by simp) fun rest' v' hv' => ?_
    obtain ⟨st1, st2, w, e1, e2, e3⟩ := out_fin hp hv' (.inl ⟨_, rfl⟩)
    simp [wReads, reps, fillV, ofDs, lay, f9, f1, f6, f5, f8, f2, f3, e1, e2, e3, outV]
end
end Go.Sh
