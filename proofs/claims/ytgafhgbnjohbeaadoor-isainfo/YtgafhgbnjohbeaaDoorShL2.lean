/- What IsaInfo comes to on shadow runs. -/
import Derived.Test.YtgafhgbnjohbeaaDoorShE2
set_option linter.unusedVariables false
set_option linter.unusedSimpArgs false
namespace Go.Sh
open Go.Proofs.YtgafhgbnjohbeaaDoor.isaInfo
theorem form_out (x : Int) (h : x < 0 ∨ 255 < x) (st : St) : den pr 18 [.d (.i .i64 x)] st = some (.d (.i .i64 0), st) := by
  rw [den_fn (fn := F18_isa_form) rfl rfl]
  obtain ⟨s, hs, h1, h2, h3, h4⟩ := start_facts F18_isa_form rfl st
  rw [hs]
  by_cases hx : x < 0
  · simp [F18_isa_form, hx]
  · have hy : 255 < x := by omega
    simp [F18_isa_form, hx, hy]
theorem rows_out (x : Int) (h : x < 0 ∨ 255 < x) (st : St) : den pr 17 [.d (.i .i64 x)] st = some (.d (.sl 0 false []), st) := by
  rw [den_fn (fn := F17_spindleref2_Rows) rfl rfl]
  obtain ⟨s, hs, h1, h2, h3, h4⟩ := start_facts F17_spindleref2_Rows rfl st
  rw [hs]
  by_cases hx : x < 0
  · simp [F17_spindleref2_Rows, hx]
  · have hy : 255 < x := by omega
    simp [F17_spindleref2_Rows, hx, hy]
def zU : List V := [.d (.i .i64 0), .d (.i .i64 0), .d (.b false), .d (.b false), .d (.b false), .d (.b false)]
theorem ref_out (x : Int) (h : x < 0 ∨ 255 < x) (st : St) : den pr 10 [.d (.i .i64 x)] st = some (.tup [.agg zU, .d (.i .i64 20)], st) := by
  rw [den_fn (fn := F10_spindleref2_Info) rfl rfl]
  obtain ⟨s, hs, h1, h2, h3, h4⟩ := start_facts F10_spindleref2_Info rfl st
  rw [hs]
  simp [F10_spindleref2_Info, rows_out x h, fillV, lay, ofDs, h1, h3, zU]
theorem num_den (e : Int) (st : St) : den pr 12 [.d (.i .i64 e)] st = some (.d (.i .i64 e), st) := by
  rw [den_fn (fn := F12_spindlelaw0_Num) rfl rfl]
  obtain ⟨s, hs, h1, h2, h3, h4⟩ := start_facts F12_spindlelaw0_Num rfl st
  rw [hs]
  simp [F12_spindlelaw0_Num]
theorem isa_out (x : Int) (h : x < 0 ∨ 255 < x) (st : St) : den pr 11 [.d (.i .i64 x)] st = some (.tup [.agg zU, .d (.i .i64 20)], st) := by
  rw [den_fn (fn := F11_isa_Info) rfl rfl]
  obtain ⟨s, hs, h1, h2, h3, h4⟩ := start_facts F11_isa_Info rfl st
  rw [hs]
  simp [F11_isa_Info, form_out x h, fillV, lay, ofDs, h1, h3, zU]
def useOk (a b : List D) : Prop := ∃ a1 a2 a3 a4 a5 a6 b1 b2 b3 b4 b5 b6, a = [a1, a2, a3, a4, a5, a6] ∧ b = [b1, b2, b3, b4, b5, b6] ∧ eqDs [0, 0, 1, 1, 1, 1] b a = some true
/-- Both Infos at any number. -/
theorem info_w (x : Int) : ∃ (a b : List D) (e : Int), useOk a b ∧ (∀ (st : St) (Q : V → St → Prop), Q (.tup [.agg (ofDs a), .d (.i .i64 e)]) st → CallW pr 10 [.d (.i .i64 x)] st Q) ∧
    (∀ (st : St) (Q : V → St → Prop), Q (.tup [.agg (ofDs b), .d (.i .i64 e)]) st → CallW pr 11 [.d (.i .i64 x)] st Q) ∧ (∀ op : Nat, x = op → op < 256 → (e = 0 ↔ op ∈ opsL)) := by
  by_cases h : x < 0 ∨ 255 < x
  · refine ⟨[.i .i64 0, .i .i64 0, .b false, .b false, .b false, .b false], [.i .i64 0, .i .i64 0, .b false, .b false, .b false, .b false], 20, ⟨_, _, _, _, _, _, _, _, _, _, _, _, rfl, rfl, rfl⟩, fun st Q hQ => CallW.of_den (ref_out x h st) hQ, fun st Q hQ => CallW.of_den (isa_out x h st) hQ, fun op ho hl => by omega⟩
  · obtain ⟨op, rfl⟩ : ∃ op : Nat, x = op := ⟨x.toNat, by omega⟩
    have hc := chk_all op (by omega)
    unfold chk at hc
    split at hc
    · rename_i a1 a2 a3 a4 a5 a6 e s1 b1 b2 b3 b4 b5 b6 f s2 hr1 hr2
      simp only [Bool.and_eq_true, decide_eq_true_eq, beq_iff_eq] at hc
      obtain ⟨h1, rfl, h3⟩ := hc
      refine ⟨[a1, a2, a3, a4, a5, a6], [b1, b2, b3, b4, b5, b6], e, ⟨_, _, _, _, _, _, _, _, _, _, _, _, rfl, rfl, h1⟩, fun st Q hQ => CallW.of_empty (xs := [.i .i64 op]) ⟨30, _, s1, _, hr1, by simp [ofDs], hQ⟩, fun st Q hQ => CallW.of_empty (xs := [.i .i64 op]) ⟨30, _, s2, _, hr2, by simp [ofDs], hQ⟩, fun op' ho hl => ?_⟩
      have : op = op' := by omega
      subst this
      have h4 : (e = 0) = (opsL.contains op = true) := by
        rw [← h3]
        simp
      rw [h4]
      simp
    · cases hc
theorem use_eq {a b : List D} (h : useOk a b) : eqV [9, 0, 0, 1, 1, 1, 1] (.agg (ofDs b)) (.agg (ofDs a)) = some true := by
  obtain ⟨a1, a2, a3, a4, a5, a6, b1, b2, b3, b4, b5, b6, rfl, rfl, h⟩ := h
  simp only [eqV, toDs_ofDs', List.length_cons, List.length_nil, and_self, if_true, h]
def atOf (op : Nat) : Nat := (opsL.filter fun n => decide (n < op)).length
theorem ops_table : ((List.range 256).all fun op => if opsL.contains op then (opsL[atOf op]? == some op) && (atOf (op + 1) == atOf op + 1) else atOf (op + 1) == atOf op) = true := by kernel_rfl
theorem at_256 : atOf 256 = 119 := by kernel_rfl
theorem opsL_len : opsL.length = 119 := by kernel_rfl
theorem at_step {op : Nat} (h : op < 256) : (op ∈ opsL → opsL[atOf op]? = some op ∧ atOf (op + 1) = atOf op + 1) ∧ (op ∉ opsL → atOf (op + 1) = atOf op) := by
  have := List.all_eq_true.1 ops_table op (List.mem_range.2 h)
  by_cases ho : op ∈ opsL
  · have hc : opsL.contains op = true := by simpa using ho
    simp only [hc, if_true, Bool.and_eq_true, beq_iff_eq] at this
    exact ⟨fun _ => this, fun hn => (hn ho).elim⟩
  · have hc : opsL.contains op = false := by simpa using ho
    simp only [hc, Bool.false_eq_true, if_false, beq_iff_eq] at this
    exact ⟨fun hn => (ho hn).elim, fun _ => this⟩
end Go.Sh
