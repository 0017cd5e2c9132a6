/- 'IsaRow' answers true for every instruction, field number and number that may come in; the card: where the five tables of the package isa are what the program's text lays. -/
import Derived.Test.YtbjckcenlfgcaabDoorShHisaRow
import Derived.Test.YtbjckcenlfgcaabDoorShLins
set_option linter.unusedVariables false
namespace Go.Proofs.YtbjckcenlfgcaabDoor.row
open Go.Sh Go.ChangeAt
theorem says_isaRow : SaysTrue Rows.isaRowSpec 3 := ⟨rfl, fun H ds h => by
  match ds, h with
  | [d0, d1, d2], _ => exact ⟨rfl, rfl, rfl⟩⟩
theorem laid_met_isaRow (os : Os) : laidMet Tryd.prog Rows.isaRowRow.laid ((laidWorld os).forCall (fun _ _ => 0) ⟨#[], #[.agg #[.int .i64 0, .int .i64 0, .int .i64 0, .int .i64 0, .int .i64 0], .int .i64 0, .int .i64 0], []⟩).memory :=
  laidMet_of_run' 8 (by kernel_rfl) (by kernel_rfl)
theorem reads_isaRow (os : Os) {H : Type} (enc : TypeId × Value → H) : ∃ places, DataW.whole enc Tryd.prog ((laidWorld os).forCall (fun _ _ => 0) ⟨#[], #[.agg #[.int .i64 0, .int .i64 0, .int .i64 0, .int .i64 0, .int .i64 0], .int .i64 0, .int .i64 0], []⟩).memory Tryd.f8.params.toList Rows.isaRowSpec.vars false #[.agg #[.int .i64 0, .int .i64 0, .int .i64 0, .int .i64 0, .int .i64 0], .int .i64 0, .int .i64 0].toList 8 = some ([.agg [.lit (.int .i64 0), .lit (.int .i64 0), .lit (.int .i64 0), .lit (.int .i64 0), .lit (.int .i64 0)], .lit (.int .i64 0), .lit (.int .i64 0)], [], places) :=
  ⟨[], by kernel_rfl⟩
set_option maxRecDepth 100000 in
theorem lifted_isaRow (os : Os) (started : os.Started) (H : Type) (enc : TypeId × Value → H) (F : Stop.Interp) :
    ReturnsInHanded {} Tryd.checked os 8 .any ((OpenSpec.ofChange Rows.isaRowSpec).preRow enc Tryd.prog Tryd.f8 Rows.isaRowRow.domain false Rows.isaRowRow.laid) (((OpenSpec.ofChange Rows.isaRowSpec).at F).post enc Tryd.prog Tryd.f8 false true false false) := by
  obtain ⟨places, hx⟩ := reads_isaRow os enc
  refine returnsInHanded_of_row (C := Tryd.checked) (s := (OpenSpec.ofChange Rows.isaRowSpec)) own started (by kernel_rfl) Tryd.func8
    (witness_row_at (enc := enc) (C := Tryd.checked) false (laidWorld os) #[.agg #[.int .i64 0, .int .i64 0, .int .i64 0, .int .i64 0, .int .i64 0], .int .i64 0, .int .i64 0] rfl (by kernel_rfl) (by kernel_rfl) (by kernel_rfl)
      (OpenSpec.preRow_of_cond 8 hx (by kernel_rfl) (fun k hk => by cases hk) (by kernel_rfl) (laid_met_isaRow os))) ?_
  intro W base args ds gs before hval hW _ _ hw hL _ _
  have hgs : gs = [] := by
    obtain ⟨_, _, _, hV, _⟩ := hW
    exact (Go.ChangeShapes.trodVars_none hV).1
  subst hgs
  have hw' : (DataW.weightsEach Tryd.prog Tryd.f8.params.toList ds).all (· ≤ reachBytes) = true := by
    have e : (OpenSpec.ofChange Rows.isaRowSpec).bare.plain.varTypes Tryd.checked.prog = [] := rfl
    rw [e, List.append_nil, List.append_nil] at hw
    exact hw
  refine contractW (Pr := pr) (L := link) (F := 119) (fn := Tryd.f8) (s := Rows.isaRowSpec) (tys := [insTy, .int .i64, .int .i64]) (tb := 4) laidOut tie (globs hL) (by kernel_rfl) (by kernel_rfl) (by kernel_rfl) Tryd.underlying4 says_isaRow hval hW hw' ?_
  intro dss ha hbulk
  obtain ⟨e0, e1, e2, rfl, hh0, hh1, hh2⟩ := all2_three ha
  simp only [Has] at hh1 hh2
  obtain ⟨x, rfl, hx⟩ := ins_of hh0
  obtain ⟨fld, rfl, hf1, hf2⟩ := hh1
  obtain ⟨v, rfl, hv1, hv2⟩ := hh2
  exact (law_IsaRow hI hp hAw hRl x fld v (st := st0)).mono fun v s h => h.2

theorem said_isaRow : Rows.IsaRowSaid :=
  OpenClaim.holds_of_cond 8 Tryd.f8 rfl rfl rfl rfl rfl rfl rfl ⟨rfl, rfl, rfl, rfl, rfl⟩ rfl rfl rfl rfl rfl (by kernel_rfl) Tryd.func8 (by kernel_rfl)
    (of_decide_eq_true (by kernel_rfl)) (by unfold Func.isWrapper; first | (rw [if_pos (by decide +kernel)]; kernel_rfl) | (rw [if_neg (by decide +kernel)]; exact ⟨rfl, rfl⟩))
    (fun os started H enc _ F => by rw [OpenClaim.pre_eq_preRow]; exact lifted_isaRow os started H enc F)
theorem plain_isaRow (f : FuncId) (fn : Func) (hf : Tryd.pinned.checked.prog.funcNamed "spindle/spindlelaw2.IsaRow" = some f) (hfn : Tryd.pinned.checked.prog.funcs[f]? = some fn) :
    false = Tryd.pinned.checked.prog.looks [] ∧ ∀ (j : Nat) t, fn.params[j]? = some t → Tryd.pinned.checked.prog.wantsStandIn t = false := by
  obtain rfl : f = 8 := Option.some.inj ((show Tryd.prog.funcNamed "spindle/spindlelaw2.IsaRow" = some 8 by kernel_rfl).symm.trans hf) |>.symm
  obtain rfl : fn = Tryd.f8 := (Option.some.inj (Tryd.func8.symm.trans hfn)).symm
  refine ⟨by kernel_rfl, fun j t ht => ?_⟩
  rw [Tryd.params8] at ht
  have hm := Array.mem_of_getElem? ht
  simp only [List.mem_toArray, List.mem_cons, List.not_mem_nil, or_false] at hm
  rcases hm with rfl | rfl | rfl
  · exact (show Tryd.prog.wantsStandIn 55 = false by kernel_rfl)
  · exact (show Tryd.prog.wantsStandIn 3 = false by kernel_rfl)
  · exact (show Tryd.prog.wantsStandIn 3 = false by kernel_rfl)
theorem card_isaRow : Rows.IsaRowCardSaid :=
  Claim7.holds_tied_plain_at .later [] _ _ _ _ said_isaRow (fun _ h => by cases h) (by kernel_rfl) (fun _ h => by cases h) isaRow_row_tie rfl ⟨rfl, rfl⟩ (by kernel_rfl) rfl plain_isaRow (by kernel_rfl)
#print axioms card_isaRow
end Go.Proofs.YtbjckcenlfgcaabDoor.row
