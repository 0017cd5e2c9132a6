/- 'CodeJoins' answers true for every two lists of instructions and every number that may come in and hold together at most 1048576 values, and the lists read behind the call as they read before; the card: where the five tables of the package isa are what the program's text lays. -/
import Derived.Test.YtbjckcenlfgcaabDoorShHcode
import Derived.Test.YtbjckcenlfgcaabDoorShLins
set_option linter.unusedVariables false
namespace Go.Proofs.YtbjckcenlfgcaabDoor.code
open Go.Sh Go.ChangeAt
theorem says_codeJoins : SaysTrue Rows.codeJoinsSpec 3 := ⟨rfl, fun H ds h => by
  match ds, h with
  | [d0, d1, d2], _ => exact ⟨rfl, rfl, rfl⟩⟩
theorem laid_met_codeJoins (os : Os) : laidMet Tryd.prog Rows.codeJoinsUptoRow.laid ((laidWorld os).forCall (fun _ _ => 0) ⟨#[], #[.slice none 0 0, .slice none 0 0, .int .i64 0], []⟩).memory :=
  laidMet_of_run' 8 (by kernel_rfl) (by kernel_rfl)
theorem reads_codeJoins (os : Os) {H : Type} (enc : TypeId × Value → H) : ∃ places, DataW.whole enc Tryd.prog ((laidWorld os).forCall (fun _ _ => 0) ⟨#[], #[.slice none 0 0, .slice none 0 0, .int .i64 0], []⟩).memory Tryd.f7.params.toList Rows.codeJoinsSpec.vars false #[.slice none 0 0, .slice none 0 0, .int .i64 0].toList 8 = some ([.nil, .nil, .lit (.int .i64 0)], [], places) :=
  ⟨[], by kernel_rfl⟩
set_option maxRecDepth 100000 in
theorem lifted_codeJoins (os : Os) (started : os.Started) (H : Type) (enc : TypeId × Value → H) (F : Stop.Interp) :
    ReturnsInHanded {} Tryd.checked os 7 .any ((Rows.OpenSpec.upto Rows.codeJoinsSpec).preRow enc Tryd.prog Tryd.f7 Rows.codeJoinsUptoRow.domain false Rows.codeJoinsUptoRow.laid) (((Rows.OpenSpec.upto Rows.codeJoinsSpec).at F).post enc Tryd.prog Tryd.f7 false true false false) := by
  obtain ⟨places, hx⟩ := reads_codeJoins os enc
  refine returnsInHanded_of_row (C := Tryd.checked) (s := (Rows.OpenSpec.upto Rows.codeJoinsSpec)) own started (by kernel_rfl) Tryd.func7
    (witness_row_at (enc := enc) (C := Tryd.checked) false (laidWorld os) #[.slice none 0 0, .slice none 0 0, .int .i64 0] rfl (by kernel_rfl) (by kernel_rfl) (by kernel_rfl)
      (OpenSpec.preRow_of_cond 8 hx (by kernel_rfl) (fun k hk => by cases hk; kernel_rfl) (by kernel_rfl) (laid_met_codeJoins os))) ?_
  intro W base args ds gs before hval hW _ hcond hw hL _ _
  have hgs : gs = [] := by
    obtain ⟨_, _, _, hV, _⟩ := hW
    exact (Go.ChangeShapes.trodVars_none hV).1
  subst hgs
  have hw' : (DataW.weightsEach Tryd.prog Tryd.f7.params.toList ds).all (· ≤ reachBytes) = true := by
    have e : (Rows.OpenSpec.upto Rows.codeJoinsSpec).bare.plain.varTypes Tryd.checked.prog = [] := rfl
    rw [e, List.append_nil, List.append_nil] at hw
    exact hw
  refine contractW (Pr := pr) (L := link) (F := 75) (fn := Tryd.f7) (s := Rows.codeJoinsSpec) (tys := [.sl 40 insTy, .sl 40 insTy, .int .i64]) (tb := 4) laidOut tie (globs hL) (by kernel_rfl) (by kernel_rfl) (by kernel_rfl) Tryd.underlying4 says_codeJoins hval hW hw' ?_
  intro dss ha hbulk
  have hbd : bulkL dss.flatten ≤ 1048576 := Nat.le_trans hbulk (small (hcond _ rfl))
  obtain ⟨d1, d2, d3, rfl, hh1, hh2, hh3⟩ := all2_three ha
  simp only [Has] at hh1 hh2 hh3
  obtain ⟨els, nz, rfl, hb, _, hel⟩ := hh1
  obtain ⟨els', nz', rfl, hb', _, hel'⟩ := hh2
  obtain ⟨rest, rfl, hr0, hr1⟩ := hh3
  obtain ⟨a, rfl, hwa⟩ := inss_of hel
  obtain ⟨c, rfl, hwc⟩ := inss_of hel'
  have e : argVs [.sl 40 insTy, .sl 40 insTy, .int .i64] [[.sl (a.map Ins.cells).length nz (a.map Ins.cells).flatten], [.sl (c.map Ins.cells).length nz' (c.map Ins.cells).flatten], [.i .i64 rest]] = [dsl Ins.cells nz a, dsl Ins.cells nz' c, .d (.i .i64 rest)] := by rw [List.length_map, List.length_map]; rfl
  have hsm : a.length ≤ 1048576 := bulk_els insC (by omega) hbd
  have hsm' : c.length ≤ 1048576 := bulk_els insC (by omega) (bulk_tail hbd)
  rw [e]
  exact CallW.of_den (law_CodeJoins hI hp hq hj nz nz' a c rest hsm hsm' hwa hwc (st := st0)) rfl

theorem said_codeJoins : Rows.CodeJoinsUptoSaid :=
  OpenClaim.holds_of_cond 7 Tryd.f7 rfl rfl rfl rfl rfl rfl rfl ⟨rfl, rfl, rfl, rfl, rfl⟩ rfl rfl rfl rfl rfl (by kernel_rfl) Tryd.func7 (by kernel_rfl)
    (of_decide_eq_true (by kernel_rfl)) (by unfold Func.isWrapper; first | (rw [if_pos (by decide +kernel)]; kernel_rfl) | (rw [if_neg (by decide +kernel)]; exact ⟨rfl, rfl⟩))
    (fun os started H enc _ F => by rw [OpenClaim.pre_eq_preRow]; exact lifted_codeJoins os started H enc F)
theorem plain_codeJoins (f : FuncId) (fn : Func) (hf : Tryd.pinned.checked.prog.funcNamed "spindle/spindlelaw3.CodeJoins" = some f) (hfn : Tryd.pinned.checked.prog.funcs[f]? = some fn) :
    false = Tryd.pinned.checked.prog.looks [] ∧ ∀ (j : Nat) t, fn.params[j]? = some t → Tryd.pinned.checked.prog.wantsStandIn t = false := by
  obtain rfl : f = 7 := Option.some.inj ((show Tryd.prog.funcNamed "spindle/spindlelaw3.CodeJoins" = some 7 by kernel_rfl).symm.trans hf) |>.symm
  obtain rfl : fn = Tryd.f7 := (Option.some.inj (Tryd.func7.symm.trans hfn)).symm
  refine ⟨by kernel_rfl, fun j t ht => ?_⟩
  rw [Tryd.params7] at ht
  have hm := Array.mem_of_getElem? ht
  simp only [List.mem_toArray, List.mem_cons, List.not_mem_nil, or_false] at hm
  rcases hm with rfl | rfl | rfl
  · exact (show Tryd.prog.wantsStandIn 22 = false by kernel_rfl)
  · exact (show Tryd.prog.wantsStandIn 22 = false by kernel_rfl)
  · exact (show Tryd.prog.wantsStandIn 3 = false by kernel_rfl)
theorem card_codeJoins : Rows.CodeJoinsUptoCardSaid :=
  Claim7.holds_tied_plain_at .later [] _ _ _ _ said_codeJoins (fun _ h => by cases h) (by kernel_rfl) (fun _ h => by cases h) codeJoinsUpto_row_tie rfl ⟨rfl, rfl⟩ (by kernel_rfl) rfl plain_codeJoins (by kernel_rfl)
#print axioms card_codeJoins
end Go.Proofs.YtbjckcenlfgcaabDoor.code
