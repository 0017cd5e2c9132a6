/- The law IsaClass on shadow runs. -/
import Derived.Test.YtgafhgbnjohbeabDoorShE3
set_option linter.unusedVariables false
set_option linter.unusedSimpArgs false
namespace Go.Sh
open Go.Proofs.YtgafhgbnjohbeabDoor.isaClass
theorem form_out (x : Int) (h : x < 0 ∨ 255 < x) (st : St) : den pr 18 [.d (.i .i64 x)] st = some (.d (.i .i64 0), st) := by
  rw [den_fn (fn := F18_isa_form) rfl rfl]
  obtain ⟨s, hs, h1, h2, h3, h4⟩ := start_facts F18_isa_form rfl st
  rw [hs]
  by_cases hx : x < 0
  · simp [F18_isa_form, hx]
  · have hy : 255 < x := by omega
    simp [F18_isa_form, hx, hy]
def zU : List V := [.d (.i .i64 0), .d (.i .i64 0), .d (.b false), .d (.b false), .d (.b false), .d (.b false)]
theorem isa_out (x : Int) (h : x < 0 ∨ 255 < x) (st : St) : den pr 11 [.d (.i .i64 x)] st = some (.tup [.agg zU, .d (.i .i64 20)], st) := by
  rw [den_fn (fn := F11_isa_Info) rfl rfl]
  obtain ⟨s, hs, h1, h2, h3, h4⟩ := start_facts F11_isa_Info rfl st
  rw [hs]
  simp [F11_isa_Info, form_out x h, fillV, lay, ofDs, h1, h3, zU]
theorem law_w (st : St) (x : Int) : CallW pr 26 [.d (.i .i64 x)] st (fun r _ => r = .d (.b true)) := by
  by_cases h : x < 0 ∨ 255 < x
  · refine CallW.of_body (fn := F26_spindlelaw2_IsaClass) rfl rfl ?_
    obtain ⟨s, hs, g1, g2, g3, g4⟩ := start_facts F26_spindlelaw2_IsaClass rfl st
    rw [hs]
    refine CodeW.seq (CodeW.of_ex ?_)
    simp [Seq]
    refine CodeW.seq (CodeW.of_ex ?_)
    simp [isa_out x h, Seq, zU, lay, ofDs, g1, g3]
    refine CodeW.seq (CodeW.seq (CodeW.of_ex ?_))
    simp [Seq]
    refine CodeW.cond ⟨true, by simp, fun _ => ?_, fun hh => by cases hh⟩
    refine CodeW.seq (CodeW.region ?_)
    simp [OpsW, OpW, Seq]
    refine CallW.of_runIs (xs := []) awake_run ?_
    simp [Seq, g1, fillV, ofDs, eqV, eqDs, eqK]
    refine CodeW.ret ?_
    simp [Seq, FinW, F26_spindlelaw2_IsaClass]
  · obtain ⟨op, rfl⟩ : ∃ op : Nat, x = op := ⟨x.toNat, by omega⟩
    exact CallW.of_runIs (xs := [.i .i64 op]) (chk_all op (by omega)) rfl
end Go.Sh
