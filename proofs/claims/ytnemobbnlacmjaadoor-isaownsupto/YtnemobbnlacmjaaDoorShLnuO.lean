/- What is read, in a row (isa.Reads). -/
import Derived.Test.YtnemobbnlacmjaaDoorShLnuN
set_option linter.unusedVariables false
set_option linter.unusedSimpArgs false
namespace Go.Sh
def wRR : Nat → Bool := fun f => f == 239
/-- An element more, that lies in a row of its own. -/
theorem NewL.appL {st s : St} {v : V} {l : List Int} (h : NewL st s v l) (hf : st.floor = 0) (hl : l.length ≤ 1000) (x : Int) {Q : V → St → Prop} (hQ : ∀ s' v', NewL st s' v' (l ++ [x]) → Q v' s') : appW 1 8 [D.i .i64 0] (s.push (.row [.d (.i .i64 x)])) v (.rsl 1 s.heap.length 0 1 1) Q := by
  obtain ⟨j, h1, h2, h3⟩ := h
  have g0 : Gr s (s.push (.row [.d (.i .i64 x)])) (fun _ => False) (fun _ => True) := .push _
  have h1 : LR (s.push (.row [.d (.i .i64 x)])) 1 v l.length (ofDs (icl l)) j := h1.gr g0 fun _ _ e => e
  have h2 := h2.trans g0
  have hrow : (s.push (.row [V.d (.i .i64 x)])).row s.heap.length = some [V.d (.i .i64 x)] := row_push_new rfl
  refine appW_LR (h2.floor.trans hf) h1 (show vwV 1 (s.push (.row [.d (.i .i64 x)])) (.rsl 1 s.heap.length 0 1 1) = some (1, ofDs [D.i .i64 x]) from by simp [vwV, hrow, ofDs]) (by simp [ofDs]) rfl (by omega) (by omega) ?_
  intro s' v' j' h4 g4 n4
  refine hQ s' v' ⟨j', ?_, ?_, ?_⟩
  · have e : ofDs (icl l) ++ ofDs [D.i .i64 x] = ofDs (icl (l ++ [x])) := by simp [icl, ofDs, ic]
    rw [e] at h4
    simpa using h4
  · have := (h2.mono (A' := fun r => st.heap.length ≤ r) (fun _ _ e => e.elim) fun _ h => h).trans (g4.mono (A' := fun r => st.heap.length ≤ r) (fun r hr e => h3 r e) fun _ _ => trivial)
    exact this.mono (fun r hr e => by omega) fun _ h => h
  · intro r hr
    have := h2.len
    rcases n4 with e | ⟨i, e, hi, _⟩
    · exact h3 r (by rw [← e]; exact hr)
    · rw [e] at hr
      obtain rfl := Option.some.inj hr
      omega
section
variable {pr : Prog} (hI : IsaOk pr) (hq : Sub rowNFns pr) (hp : Sub regFns pr) {st : St}
include hI hq hp
omit hp in
theorem callW_ReadsR_no (hf : st.floor = 0) {x : Ins} (h : mayV x ≠ 0) : CallW pr 237 [.agg (ofDs x.cells)] st fun v s => NewL st s v [] := by
  have hm : ∀ st, den pr 27 [.agg [.d (.i .i64 x.op), .d (.i .i64 x.dst), .d (.i .i64 x.src), .d (.i .i64 x.off), .d (.i .i64 x.imm)]] st = some (.d (.i .i64 (mayV x)), st) := fun st => den_may hI (st := st) x
  obtain ⟨u, e, hinfo⟩ : ∃ (u : List V) (e : Int), (∀ st, den pr 11 [.d (.i .i64 x.op)] st = some (.tup [.agg u, .d (.i .i64 e)], st)) ∧ ∃ a b c d e' f, u = [.d (.i .i64 a), .d (.i .i64 b), .d (.b c), .d (.b d), .d (.b e'), .d (.b f)] := by
    by_cases ho : 0 ≤ x.op ∧ x.op ≤ 255
    · obtain ⟨op, hop⟩ : ∃ op : Nat, x.op = op := ⟨x.op.toNat, by omega⟩
      obtain ⟨c, _, _, _, h2, _⟩ := cls_facts hI op (by omega)
      rw [hop]
      exact ⟨_, _, h2, _, _, _, _, _, _, rfl⟩
    · exact ⟨_, _, fun st => info_out hI x.op (by omega), _, _, _, _, _, _, rfl⟩
  obtain ⟨hinfo, a, b, c, d, e', f, rfl⟩ := hinfo
  obtain ⟨s1, hs1⟩ : ∃ s1, s1 = (st.push (.row [.d (.i .i64 x.op), .d (.i .i64 x.dst), .d (.i .i64 x.src), .d (.i .i64 x.off), .d (.i .i64 x.imm)])).push (.row [.d (.i .i64 0), .d (.i .i64 0), .d (.b false), .d (.b false), .d (.b false), .d (.b false)]) := ⟨_, rfl⟩
  have r0 : s1.row st.heap.length = some [.d (.i .i64 x.op), .d (.i .i64 x.dst), .d (.i .i64 x.src), .d (.i .i64 x.off), .d (.i .i64 x.imm)] := by
    rw [hs1, row_old (by simp), row_push_new rfl]
  have r1 : s1.row (st.heap.length + 1) = some [.d (.i .i64 0), .d (.i .i64 0), .d (.b false), .d (.b false), .d (.b false), .d (.b false)] := by
    rw [hs1, row_push_new (by simp)]
  have hset : ∀ cs, s1.setBlk (st.heap.length + 1) (.row cs) = some (s1.put (st.heap.length + 1) cs) := fun cs => setBlk_put (by rw [hs1]; exact hf)
  obtain ⟨s2, hs2⟩ : ∃ s2, s2 = s1.put (st.heap.length + 1) [.d (.i .i64 a), .d (.i .i64 b), .d (.b c), .d (.b d), .d (.b e'), .d (.b f)] := ⟨_, rfl⟩
  have q0 : s2.row st.heap.length = some [.d (.i .i64 x.op), .d (.i .i64 x.dst), .d (.i .i64 x.src), .d (.i .i64 x.off), .d (.i .i64 x.imm)] := by rw [hs2, row_put_ne (by omega)]; exact r0
  have g : Gr st s2 (fun _ => False) (fun _ => True) := by
    have g1 : Gr s1 s2 (fun r => st.heap.length ≤ r) (fun _ => True) := by rw [hs2]; exact Gr.put r1 rfl (by omega) fun _ _ _ => .inr trivial
    have g0 : Gr st s1 (fun r => st.heap.length ≤ r) (fun _ => True) := by rw [hs1]; exact (Gr.push _).trans (Gr.push _)
    exact (g0.trans g1).mono (fun r hr e => by omega) fun _ h => h
  refine .run wRR (hq.at 1 rfl) rfl ?_
  rw [start_raw _ rfl]
  refine codeC_of ?_
  simp [F237_isa_Reads_row, wRR, Ins.cells, ofDs, hm, hinfo, h, lay, ← hs1, r0, r1, hset, ← hs2, q0, FinW]
  exact (NewL.nil s2).pre g
theorem callW_ReadsR (hf : st.floor = 0) {x : Ins} {op : Nat} {c : OpC} (h : MayAt x op c) (h0 : mayV x = 0) : CallW pr 237 [.agg (ofDs x.cells)] st fun v s => NewL st s v (readsI c.form c.d.src x) := by
  have hm := fun st => den_may hI (st := st) x
  obtain ⟨c', hc', hcl, hform, hinfo, _⟩ := cls_facts hI op h.lt
  obtain rfl : c = c' := Option.some.inj (h.cls.symm.trans hcl)
  obtain ⟨hu, _⟩ := cls_shape c h.mem h.e
  obtain ⟨iop, dst, src, off, imm⟩ := x
  have hop : iop = op := h.opv
  subst hop
  have hrange := may_range h0
  simp only at hrange
  have hmov : c.form = 3 → (op &&& 240 = 176 ↔ isMov ⟨op, dst, src, off, imm⟩ = true) := by
    intro h3
    have := cls_mov op h.lt
    rw [h.cls] at this
    simp only [h3, decide_true, Bool.true_and, bne_eq_false_iff_eq, decide_eq_decide] at this
    rw [this]
    simp only [isMov, decide_eq_true_eq]
    omega
  have hband : bitI .and .i64 (op : Int) 240 = some (.i .i64 ((op &&& 240 : Nat) : Int)) := by
    have h0 := h.lt
    have := and_nat .i64 op 240 (by simp [IntKind.bits]; omega) (by simp [IntKind.bits])
    have hle : op &&& 240 ≤ 240 := Nat.and_le_right
    rw [wrap_i64 (by omega) (by omega)] at this
    exact this
  simp only [Ins.cells, ofDs, List.map_cons, List.map_nil, h0] at hm
  simp only [OpC.use, hu] at hinfo
  generalize c.form = f at *
  generalize c.d.src = us at *
  generalize c.d.dst = ud at *
  generalize c.d.off = uo at *
  generalize c.d.imm = ui at *
  obtain ⟨s1, hs1⟩ : ∃ s1, s1 = (st.push (.row [.d (.i .i64 op), .d (.i .i64 dst), .d (.i .i64 src), .d (.i .i64 off), .d (.i .i64 imm)])).push (.row [.d (.i .i64 0), .d (.i .i64 0), .d (.b false), .d (.b false), .d (.b false), .d (.b false)]) := ⟨_, rfl⟩
  have r0 : s1.row st.heap.length = some [.d (.i .i64 op), .d (.i .i64 dst), .d (.i .i64 src), .d (.i .i64 off), .d (.i .i64 imm)] := by
    rw [hs1, row_old (by simp), row_push_new rfl]
  have r1 : s1.row (st.heap.length + 1) = some [.d (.i .i64 0), .d (.i .i64 0), .d (.b false), .d (.b false), .d (.b false), .d (.b false)] := by
    rw [hs1, row_push_new (by simp)]
  have hset : ∀ cs, s1.setBlk (st.heap.length + 1) (.row cs) = some (s1.put (st.heap.length + 1) cs) := fun cs => setBlk_put (by rw [hs1]; exact hf)
  obtain ⟨s2, hs2⟩ : ∃ s2, s2 = s1.put (st.heap.length + 1) [.d (.i .i64 f), .d (.i .i64 c.group), .d (.b ud), .d (.b us), .d (.b uo), .d (.b ui)] := ⟨_, rfl⟩
  have q0 : s2.row st.heap.length = some [.d (.i .i64 op), .d (.i .i64 dst), .d (.i .i64 src), .d (.i .i64 off), .d (.i .i64 imm)] := by rw [hs2, row_put_ne (by omega)]; exact r0
  have q1 : s2.row (st.heap.length + 1) = some [.d (.i .i64 f), .d (.i .i64 c.group), .d (.b ud), .d (.b us), .d (.b uo), .d (.b ui)] := by rw [hs2]; exact row_put_eq (row_lt r1)
  have g : Gr st s2 (fun _ => False) (fun _ => True) := by
    have g1 : Gr s1 s2 (fun r => st.heap.length ≤ r) (fun _ => True) := by rw [hs2]; exact Gr.put r1 rfl (by omega) fun _ _ _ => .inr trivial
    have g0 : Gr st s1 (fun r => st.heap.length ≤ r) (fun _ => True) := by rw [hs1]; exact (Gr.push _).trans (Gr.push _)
    exact (g0.trans g1).mono (fun r hr e => by omega) fun _ h => h
  have f2 : s2.floor = 0 := g.floor.trans hf
  have Q0 : ∀ s' v' L', NewL s2 s' v' L' → s'.row st.heap.length = some [.d (.i .i64 op), .d (.i .i64 dst), .d (.i .i64 src), .d (.i .i64 off), .d (.i .i64 imm)] := fun s' v' L' ⟨_, _, g', _⟩ => by rw [g'.keep _ (row_lt q0) id]; exact q0
  have Q1 : ∀ s' v' L', NewL s2 s' v' L' → s'.row (st.heap.length + 1) = some [.d (.i .i64 f), .d (.i .i64 c.group), .d (.b ud), .d (.b us), .d (.b uo), .d (.b ui)] := fun s' v' L' ⟨_, _, g', _⟩ => by rw [g'.keep _ (row_lt q1) id]; exact q1
  have out := NewL.nil s2
  by_cases f9 : f = 9
  · subst f9
    have go : ∀ a n : Nat, a ≤ 100 → n ≤ 100 → ∀ b : Int, b = (a : Int) + n - 1 → ∀ L : List Int, ((List.range n).map fun k : Nat => (a : Int) + (k : Int)) = L → CallW pr 239 [.d (.i .i64 a), .d (.i .i64 b)] s2 fun v s => NewL st s v L := by
      intro a n ha hn b hb L hL
      refine (callW_runR hq f2 a n ha hn hb).mono fun v s hv => ?_
      rw [← hL]
      exact hv.pre g
    have go1 := go 0 10 (by omega) (by omega) 9 rfl [0, 1, 2, 3, 4, 5, 6, 7, 8, 9] rfl
    have go2 := go 1 2 (by omega) (by omega) 2 rfl [1, 2] rfl
    have go3 := go 1 4 (by omega) (by omega) 4 rfl [1, 2, 3, 4] rfl
    refine .run wRR (hq.at 1 rfl) rfl ?_
    rw [start_raw _ rfl]
    refine codeC_of ?_
    by_cases s1' : src = 1
    · have s1' : (src = 1) = True := eq_true s1'
      simp [F237_isa_Reads_row, wRR, Ins.cells, ofDs, hm, hinfo, lay, ← hs1, r0, r1, hset, ← hs2, q0, q1, s1', readsI, callV]
      exact go1.mono fun v s hv => by simpa [FinW] using hv
    by_cases i1 : imm = 1
    · have i1 : (imm = 1) = True := eq_true i1
      simp [F237_isa_Reads_row, wRR, Ins.cells, ofDs, hm, hinfo, lay, ← hs1, r0, r1, hset, ← hs2, q0, q1, s1', i1, readsI, callV]
      exact go2.mono fun v s hv => by simpa [FinW] using hv
    by_cases i4 : imm = 4
    · have i4 : (imm = 4) = True := eq_true i4
      simp [F237_isa_Reads_row, wRR, Ins.cells, ofDs, hm, hinfo, lay, ← hs1, r0, r1, hset, ← hs2, q0, q1, s1', i1, i4, readsI, callV]
      exact go2.mono fun v s hv => by simpa [FinW] using hv
    by_cases i2 : imm = 2
    · have i2 : (imm = 2) = True := eq_true i2
      simp [F237_isa_Reads_row, wRR, Ins.cells, ofDs, hm, hinfo, lay, ← hs1, r0, r1, hset, ← hs2, q0, q1, s1', i1, i4, i2, readsI, callV]
      exact go3.mono fun v s hv => by simpa [FinW] using hv
    · simp [F237_isa_Reads_row, wRR, Ins.cells, ofDs, hm, hinfo, lay, ← hs1, r0, r1, hset, ← hs2, q0, q1, s1', i1, i4, i2, readsI, callV, FinW]
      exact out.pre g
  refine .run wRR (hq.at 1 rfl) rfl ?_
  rw [start_raw _ rfl]
  refine codeC_of ?_
  by_cases f1 : f = 1
  · subst f1
    simp [F237_isa_Reads_row, wRR, Ins.cells, ofDs, hm, hinfo, lay, ← hs1, r0, r1, hset, ← hs2, q0, q1, readsI, reps, fillV, FinW]
    exact (NewL.lit s2 0).pre g
  have hend : readsI f us ⟨op, dst, src, off, imm⟩ = ddp (srt (outV f us ⟨op, dst, src, off, imm⟩)) := by simp [readsI, f9, f1]
  rw [hend]
  by_cases f6 : f = 6
  · subst f6
    by_cases i241 : imm = 241
    · have i241' : (imm = 241) = True := eq_true i241
      simp [F237_isa_Reads_row, wRR, Ins.cells, ofDs, hm, hinfo, lay, ← hs1, r0, r1, hset, ← hs2, q0, q1, reps, fillV, i241']
      refine out.appL f2 (by simp) 0 fun s v hv => ?_
      have q0 := Q0 _ _ _ hv
      have q1 := Q1 _ _ _ hv
      simp [wRR, reps, fillV, ofDs, lay, q0, q1]
      refine hv.appL f2 (by simp) dst fun s v hv => ?_
      have q0 := Q0 _ _ _ hv
      have q1 := Q1 _ _ _ hv
      cases us
      · obtain ⟨st1, st2, w, e1, e2, e3⟩ := out_finR hp hv f2 (.inr (.inl ⟨_, _, rfl⟩))
        simp [wRR, reps, fillV, ofDs, lay, q0, q1, e1, e2, outV, i241', FinW]
        exact e3.pre g
      · simp [wRR, reps, fillV, ofDs, lay, q0, q1]
        refine hv.appL f2 (by simp) src fun s v hv => ?_
        obtain ⟨st1, st2, w, e1, e2, e3⟩ := out_finR hp hv f2 (.inr (.inr (.inl ⟨_, _, _, rfl, by omega, by omega⟩)))
        simp [wRR, reps, fillV, ofDs, lay, e1, e2, outV, i241', FinW]
        exact e3.pre g
    · simp [F237_isa_Reads_row, wRR, Ins.cells, ofDs, hm, hinfo, lay, ← hs1, r0, r1, hset, ← hs2, q0, q1, reps, fillV, i241]
      refine out.appL f2 (by simp) dst fun s v hv => ?_
      have q0 := Q0 _ _ _ hv
      have q1 := Q1 _ _ _ hv
      cases us
      · obtain ⟨st1, st2, w, e1, e2, e3⟩ := out_finR hp hv f2 (.inl ⟨_, rfl⟩)
        simp [wRR, reps, fillV, ofDs, lay, q0, q1, i241, e1, e2, outV, FinW]
        exact e3.pre g
      · simp [wRR, reps, fillV, ofDs, lay, q0, q1, i241]
        refine hv.appL f2 (by simp) src fun s v hv => ?_
        obtain ⟨st1, st2, w, e1, e2, e3⟩ := out_finR hp hv f2 (.inr (.inl ⟨_, _, rfl⟩))
        simp [wRR, reps, fillV, ofDs, lay, i241, e1, e2, outV, FinW]
        exact e3.pre g
  by_cases f528 : f = 5 ∨ f = 8 ∨ f = 2
  · have one : outV f us ⟨op, dst, src, off, imm⟩ = [dst] ++ (if us then [src] else []) := by
      rcases f528 with e | e | e <;> subst e <;> simp [outV]
    rcases f528 with e | e | e
    all_goals
      subst e
      simp [F237_isa_Reads_row, wRR, Ins.cells, ofDs, hm, hinfo, lay, ← hs1, r0, r1, hset, ← hs2, q0, q1, reps, fillV]
      refine out.appL f2 (by simp) dst fun s v hv => ?_
      have q0 := Q0 _ _ _ hv
      have q1 := Q1 _ _ _ hv
      rw [one]
      cases us
      · obtain ⟨st1, st2, w, e1, e2, e3⟩ := out_finR hp hv f2 (.inl ⟨_, rfl⟩)
        simp [wRR, reps, fillV, ofDs, lay, q0, q1, e1, e2, FinW]
        exact e3.pre g
      · simp [wRR, reps, fillV, ofDs, lay, q0, q1]
        refine hv.appL f2 (by simp) src fun s v hv => ?_
        obtain ⟨st1, st2, w, e1, e2, e3⟩ := out_finR hp hv f2 (.inr (.inl ⟨_, _, rfl⟩))
        simp [wRR, reps, fillV, ofDs, lay, e1, e2, FinW]
        exact e3.pre g
  have f5 : ¬ f = 5 := fun e => f528 (.inl e)
  have f8 : ¬ f = 8 := fun e => f528 (.inr (.inl e))
  have f2' : ¬ f = 2 := fun e => f528 (.inr (.inr e))
  by_cases f3 : f = 3
  · skip
    subst f3
    have hmov := hmov rfl
    by_cases hmv : isMov ⟨op, dst, src, off, imm⟩ = true
    · have h176 : ((op &&& 240 : Nat) : Int) = 176 := by rw [hmov.2 hmv]; rfl
      rw [h176] at hband
      simp [F237_isa_Reads_row, wRR, Ins.cells, ofDs, hm, hinfo, lay, ← hs1, r0, r1, hset, ← hs2, q0, q1, reps, fillV, hband]
      cases us
      · obtain ⟨st1, st2, w, e1, e2, e3⟩ := out_finR hp out f2 (.inr (.inr (.inr ⟨rfl, rfl⟩)))
        simp [wRR, reps, fillV, ofDs, lay, hmv, q0, q1, e1, e2, outV, FinW]
        exact e3.pre g
      · simp [wRR, reps, fillV, ofDs, lay, hmv, q0, q1]
        refine out.appL f2 (by simp) src fun s v hv => ?_
        obtain ⟨st1, st2, w, e1, e2, e3⟩ := out_finR hp hv f2 (.inl ⟨_, rfl⟩)
        simp [wRR, reps, fillV, ofDs, lay, hmv, e1, e2, outV, FinW]
        exact e3.pre g
    · have h176 : ¬ ((op &&& 240 : Nat) : Int) = 176 := fun e => hmv (hmov.1 (by omega))
      have hmv' : isMov ⟨op, dst, src, off, imm⟩ = false := by simpa using hmv
      generalize ((op &&& 240 : Nat) : Int) = b at *
      simp [F237_isa_Reads_row, wRR, Ins.cells, ofDs, hm, hinfo, lay, ← hs1, r0, r1, hset, ← hs2, q0, q1, reps, fillV, hband, h176]
      refine out.appL f2 (by simp) dst fun s v hv => ?_
      have q0 := Q0 _ _ _ hv
      have q1 := Q1 _ _ _ hv
      cases us
      · obtain ⟨st1, st2, w, e1, e2, e3⟩ := out_finR hp hv f2 (.inl ⟨_, rfl⟩)
        simp [wRR, reps, fillV, ofDs, lay, hmv', q0, q1, e1, e2, outV, FinW]
        exact e3.pre g
      · simp [wRR, reps, fillV, ofDs, lay, hmv', q0, q1]
        refine hv.appL f2 (by simp) src fun s v hv => ?_
        obtain ⟨st1, st2, w, e1, e2, e3⟩ := out_finR hp hv f2 (.inr (.inl ⟨_, _, rfl⟩))
        simp [wRR, reps, fillV, ofDs, lay, hmv', e1, e2, outV, FinW]
        exact e3.pre g
  simp [F237_isa_Reads_row, wRR, Ins.cells, ofDs, hm, hinfo, lay, ← hs1, r0, r1, hset, ← hs2, q0, q1, reps, fillV, f9, f1, f6, f5, f8, f2', f3]
  cases us
  · obtain ⟨st1, st2, w, e1, e2, e3⟩ := out_finR hp out f2 (.inr (.inr (.inr ⟨rfl, rfl⟩)))
    simp [wRR, reps, fillV, ofDs, lay, f9, f1, f6, f5, f8, f2', f3, q0, q1, e1, e2, outV, FinW]
    exact e3.pre g
  · simp [wRR, reps, fillV, ofDs, lay, f9, f1, f6, f5, f8, f2', f3, q0, q1]
    refine out.appL f2 (by simp) src fun s v hv => ?_
    obtain ⟨st1, st2, w, e1, e2, e3⟩ := out_finR hp hv f2 (.inl ⟨_, rfl⟩)
    simp [wRR, reps, fillV, ofDs, lay, f9, f1, f6, f5, f8, f2', f3, e1, e2, outV, FinW]
    exact e3.pre g
end
end Go.Sh
