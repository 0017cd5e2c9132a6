/- 'CodeForth' answers true for all bytes and every number that may come in and hold together at most 1048576 values, and the bytes read behind the call as they read before; the card: where the five tables of the package isa are what the program's text lays. -/
import Derived.Test.YtbjckcenlfgcaabDoorShHcode
import Derived.Test.YtbjckcenlfgcaabDoorShLins
set_option linter.unusedVariables false
namespace Go.Proofs.YtbjckcenlfgcaabDoor.code
open Go.Sh Go.ChangeAt
theorem says_codeForth : SaysTrue Rows.codeForthSpec 2 := ⟨rfl, fun H ds h => by
  match ds, h with
  | [d0, d1], _ => exact ⟨rfl, rfl, rfl⟩⟩
theorem laid_met_codeForth (os : Os) : laidMet Tryd.prog Rows.codeForthUptoRow.laid ((laidWorld os).forCall (fun _ _ => 0) ⟨#[], #[.slice none 0 0, .int .i64 0], []⟩).memory :=
  laidMet_of_run' 8 (by kernel_rfl) (by kernel_rfl)
theorem reads_codeForth (os : Os) {H : Type} (enc : TypeId × Value → H) : ∃ places, DataW.whole enc Tryd.prog ((laidWorld os).forCall (fun _ _ => 0) ⟨#[], #[.slice none 0 0, .int .i64 0], []⟩).memory Tryd.f6.params.toList Rows.codeForthSpec.vars false #[.slice none 0 0, .int .i64 0].toList 8 = some ([.nil, .lit (.int .i64 0)], [], places) :=
  ⟨[], by kernel_rfl⟩
set_option maxRecDepth 100000 in
theorem lifted_codeForth (os : Os) (started : os.Started) (H : Type) (enc : TypeId × Value → H) (F : Stop.Interp) :
    ReturnsInHanded {} Tryd.checked os 6 .any ((Rows.OpenSpec.upto Rows.codeForthSpec).preRow enc Tryd.prog Tryd.f6 Rows.codeForthUptoRow.domain false Rows.codeForthUptoRow.laid) (((Rows.OpenSpec.upto Rows.codeForthSpec).at F).post enc Tryd.prog Tryd.f6 false true false false) := by
  obtain ⟨places, hx⟩ := reads_codeForth os enc
  refine returnsInHanded_of_row (C := Tryd.checked) (s := (Rows.OpenSpec.upto Rows.codeForthSpec)) own started (by kernel_rfl) Tryd.func6
    (witness_row_at (enc := enc) (C := Tryd.checked) false (laidWorld os) #[.slice none 0 0, .int .i64 0] rfl (by kernel_rfl) (by kernel_rfl) (by kernel_rfl)
      (OpenSpec.preRow_of_cond 8 hx (by kernel_rfl) (fun k hk => by cases hk; kernel_rfl) (by kernel_rfl) (laid_met_codeForth os))) ?_
  intro W base args ds gs before hval hW _ hcond hw hL _ _
  have hgs : gs = [] := by
    obtain ⟨_, _, _, hV, _⟩ := hW
    exact (Go.ChangeShapes.trodVars_none hV).1
  subst hgs
  have hw' : (DataW.weightsEach Tryd.prog Tryd.f6.params.toList ds).all (· ≤ reachBytes) = true := by
    have e : (Rows.OpenSpec.upto Rows.codeForthSpec).bare.plain.varTypes Tryd.checked.prog = [] := rfl
    rw [e, List.append_nil, List.append_nil] at hw
    exact hw
  refine contractW (Pr := pr) (L := link) (F := 74) (fn := Tryd.f6) (s := Rows.codeForthSpec) (tys := [.sl 1 (.int .u8), .int .i64]) (tb := 4) laidOut tie (globs hL) (by kernel_rfl) (by kernel_rfl) (by kernel_rfl) Tryd.underlying4 says_codeForth hval hW hw' ?_
  intro dss ha hbulk
  have hbd : bulkL dss.flatten ≤ 1048576 := Nat.le_trans hbulk (small (hcond _ rfl))
  obtain ⟨d1, d2, rfl, hh1, hh2⟩ := all2_two ha
  simp only [Has] at hh1 hh2
  obtain ⟨els, nz, rfl, hb, _, hel⟩ := hh1
  obtain ⟨cut, rfl, hcut0, hcut1⟩ := hh2
  obtain ⟨l, rfl⟩ := bytes_of hel
  have e : argVs [.sl 1 (.int .u8), .int .i64] [[.sl (l.map byC).length nz (l.map byC).flatten], [.i .i64 cut]] = [bsl nz l, .d (.i .i64 cut)] := by rw [List.length_map, byC_flat]; rfl
  have hsm : l.length ≤ 1048576 := bulk_bytes hbd
  rw [e]
  exact CallW.of_den (law_CodeForth hI hp hq nz l cut hsm (st := st0)) rfl

theorem said_codeForth : Rows.CodeForthUptoSaid :=
  OpenClaim.holds_of_cond 6 Tryd.f6 rfl rfl rfl rfl rfl rfl rfl ⟨rfl, rfl, rfl, rfl, rfl⟩ rfl rfl rfl rfl rfl (by kernel_rfl) Tryd.func6 (by kernel_rfl)
    (of_decide_eq_true (by kernel_rfl)) (by unfold Func.isWrapper; first | (rw [if_pos (by decide +kernel)]; kernel_rfl) | (rw [if_neg (by decide +kernel)]; exact ⟨rfl, rfl⟩))
    (fun os started H enc _ F => by rw [OpenClaim.pre_eq_preRow]; exact lifted_codeForth os started H enc F)
theorem plain_codeForth (f : FuncId) (fn : Func) (hf : Tryd.pinned.checked.prog.funcNamed "spindle/spindlelaw3.CodeForth" = some f) (hfn : Tryd.pinned.checked.prog.funcs[f]? = some fn) :
    false = Tryd.pinned.checked.prog.looks [] ∧ ∀ (j : Nat) t, fn.params[j]? = some t → Tryd.pinned.checked.prog.wantsStandIn t = false := by
  obtain rfl : f = 6 := Option.some.inj ((show Tryd.prog.funcNamed "spindle/spindlelaw3.CodeForth" = some 6 by kernel_rfl).symm.trans hf) |>.symm
  obtain rfl : fn = Tryd.f6 := (Option.some.inj (Tryd.func6.symm.trans hfn)).symm
  refine ⟨by kernel_rfl, fun j t ht => ?_⟩
  rw [Tryd.params6] at ht
  have hm := Array.mem_of_getElem? ht
  simp only [List.mem_toArray, List.mem_cons, List.not_mem_nil, or_false] at hm
  rcases hm with rfl | rfl
  · exact (show Tryd.prog.wantsStandIn 30 = false by kernel_rfl)
  · exact (show Tryd.prog.wantsStandIn 3 = false by kernel_rfl)
theorem card_codeForth : Rows.CodeForthUptoCardSaid :=
  Claim7.holds_tied_plain_at .later [] _ _ _ _ said_codeForth (fun _ h => by cases h) (by kernel_rfl) (fun _ h => by cases h) codeForthUpto_row_tie rfl ⟨rfl, rfl⟩ (by kernel_rfl) rfl plain_codeForth (by kernel_rfl)
#print axioms card_codeForth
end Go.Proofs.YtbjckcenlfgcaabDoor.code
