/- 'CodeDecodes' answers true for all bytes that may come in and hold together at most 1048576 values, and the bytes read behind the call as they read before. -/
import Derived.Test.YtnemobbnlacmjaaDoorShHcodeD
set_option linter.unusedVariables false
namespace Go.Proofs.YtnemobbnlacmjaaDoor.codeD
open Go.Sh Go.ChangeAt
theorem says_codeDecodes : SaysTrue Rows.codeDecodesSpec 1 := ⟨rfl, fun H ds h => by
  match ds, h with
  | [d0], _ => exact ⟨rfl, rfl, rfl⟩⟩
theorem laid_met_codeDecodes (os : Os) : laidMet Tryd.prog Rows.codeDecodesUptoRow.laid ((laidWorld os).forCall (fun _ _ => 0) ⟨#[], #[.slice none 0 0], []⟩).memory :=
  laidMet_of_run' 8 (by kernel_rfl) (by kernel_rfl)
theorem reads_codeDecodes (os : Os) {H : Type} (enc : TypeId × Value → H) : ∃ places, DataW.whole enc Tryd.prog ((laidWorld os).forCall (fun _ _ => 0) ⟨#[], #[.slice none 0 0], []⟩).memory Tryd.f3.params.toList Rows.codeDecodesSpec.vars false #[.slice none 0 0].toList 8 = some ([.nil], [], places) :=
  ⟨[], by kernel_rfl⟩
set_option maxRecDepth 100000 in
theorem lifted_codeDecodes (os : Os) (started : os.Started) (H : Type) (enc : TypeId × Value → H) (F : Stop.Interp) :
    ReturnsInHanded {} Tryd.checked os 3 .any ((Rows.OpenSpec.upto Rows.codeDecodesSpec).preRow enc Tryd.prog Tryd.f3 Rows.codeDecodesUptoRow.domain false Rows.codeDecodesUptoRow.laid) (((Rows.OpenSpec.upto Rows.codeDecodesSpec).at F).post enc Tryd.prog Tryd.f3 false true false false) := by
  obtain ⟨places, hx⟩ := reads_codeDecodes os enc
  refine returnsInHanded_of_row (C := Tryd.checked) (s := (Rows.OpenSpec.upto Rows.codeDecodesSpec)) own started (by kernel_rfl) Tryd.func3
    (witness_row_at (enc := enc) (C := Tryd.checked) false (laidWorld os) #[.slice none 0 0] rfl (by kernel_rfl) (by kernel_rfl) (by kernel_rfl)
      (OpenSpec.preRow_of_cond 8 hx (by kernel_rfl) (fun k hk => by cases hk; kernel_rfl) (by kernel_rfl) (laid_met_codeDecodes os))) ?_
  intro W base args ds gs before hval hW _ hcond hw hL _ _
  have hgs : gs = [] := by
    obtain ⟨_, _, _, hV, _⟩ := hW
    exact (Go.ChangeShapes.trodVars_none hV).1
  subst hgs
  have hw' : (DataW.weightsEach Tryd.prog Tryd.f3.params.toList ds).all (· ≤ reachBytes) = true := by
    have e : (Rows.OpenSpec.upto Rows.codeDecodesSpec).bare.plain.varTypes Tryd.checked.prog = [] := rfl
    rw [e, List.append_nil, List.append_nil] at hw
    exact hw
  refine contractW (Pr := pr) (L := link) (F := 215) (fn := Tryd.f3) (s := Rows.codeDecodesSpec) (tys := [.sl 1 (.int .u8)]) (tb := 4) laidOut tie (globs hL) (by kernel_rfl) (by kernel_rfl) (by kernel_rfl) Tryd.underlying4 says_codeDecodes hval hW hw' ?_
  intro dss ha hbulk
  have hbd : bulkL dss.flatten ≤ 1048576 := Nat.le_trans hbulk (small (hcond _ rfl))
  obtain ⟨ds', rfl, hh⟩ := all2_one ha
  simp only [Has] at hh
  obtain ⟨els, nz, rfl, _, _, hel⟩ := hh
  obtain ⟨l, rfl⟩ := bytes_of hel
  have hs1 : l.length ≤ 1048576 := bulk_bytes hbd
  have e : argVs [.sl 1 (.int .u8)] [[.sl (l.map byC).length nz (l.map byC).flatten]] = [bsl nz l] := by rw [List.length_map, byC_flat]; rfl
  rw [e]
  exact (law_CodeDecodes hI hR hp hD hT hN hS hLaw haw (nz := nz) hs1 (st := st0)).mono fun v s h => h.2

theorem said_codeDecodes : Rows.CodeDecodesUptoSaid :=
  OpenClaim.holds_of_cond 3 Tryd.f3 rfl rfl rfl rfl rfl rfl rfl ⟨rfl, rfl, rfl, rfl, rfl⟩ rfl rfl rfl rfl rfl (by kernel_rfl) Tryd.func3 (by kernel_rfl)
    (of_decide_eq_true (by kernel_rfl)) (by unfold Func.isWrapper; first | (rw [if_pos (by decide +kernel)]; kernel_rfl) | (rw [if_neg (by decide +kernel)]; exact ⟨rfl, rfl⟩))
    (fun os started H enc _ F => by rw [OpenClaim.pre_eq_preRow]; exact lifted_codeDecodes os started H enc F)
theorem plain_codeDecodes (f : FuncId) (fn : Func) (hf : Tryd.pinned.checked.prog.funcNamed "spindle/spindlelaw3.CodeDecodes" = some f) (hfn : Tryd.pinned.checked.prog.funcs[f]? = some fn) :
    false = Tryd.pinned.checked.prog.looks [] ∧ ∀ (j : Nat) t, fn.params[j]? = some t → Tryd.pinned.checked.prog.wantsStandIn t = false := by
  obtain rfl : f = 3 := Option.some.inj ((show Tryd.prog.funcNamed "spindle/spindlelaw3.CodeDecodes" = some 3 by kernel_rfl).symm.trans hf) |>.symm
  obtain rfl : fn = Tryd.f3 := (Option.some.inj (Tryd.func3.symm.trans hfn)).symm
  refine ⟨by kernel_rfl, fun j t ht => ?_⟩
  rw [Tryd.params3] at ht
  have hm := Array.mem_of_getElem? ht
  simp only [List.mem_toArray, List.mem_cons, List.not_mem_nil, or_false] at hm
  rcases hm with rfl
  · exact (show Tryd.prog.wantsStandIn 22 = false by kernel_rfl)
theorem card_codeDecodes : Rows.CodeDecodesUptoCardSaid :=
  Claim7.holds_tied_plain_at .later [] _ _ _ _ said_codeDecodes (fun _ h => by cases h) (by kernel_rfl) (fun _ h => by cases h) codeDecodesUpto_row_tie rfl ⟨rfl, rfl⟩ (by kernel_rfl) rfl plain_codeDecodes (by kernel_rfl)
#print axioms card_codeDecodes
end Go.Proofs.YtnemobbnlacmjaaDoor.codeD
