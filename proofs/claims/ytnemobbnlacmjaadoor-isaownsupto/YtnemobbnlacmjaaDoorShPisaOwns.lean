/- 'IsaOwns' answers true for all instructions that may come in and hold together at most 1048576 values; the card: where the five tables of the package isa are what the program's text lays. -/
import Derived.Test.YtnemobbnlacmjaaDoorShHisaOwns
set_option linter.unusedVariables false
namespace Go.Proofs.YtnemobbnlacmjaaDoor.isaOwns
open Go.Sh Go.ChangeAt
theorem says_isaOwns : SaysTrue Rows.isaOwnsSpec 1 := ⟨rfl, fun H ds h => by
  match ds, h with
  | [d0], _ => exact ⟨rfl, rfl, rfl⟩⟩
theorem laid_met_isaOwns (os : Os) : laidMet Tryd.prog Rows.isaOwnsUptoRow.laid ((laidWorld os).forCall (fun _ _ => 0) ⟨#[], #[.slice none 0 0], []⟩).memory :=
  laidMet_of_run' 8 (by kernel_rfl) (by kernel_rfl)
theorem reads_isaOwns (os : Os) {H : Type} (enc : TypeId × Value → H) : ∃ places, DataW.whole enc Tryd.prog ((laidWorld os).forCall (fun _ _ => 0) ⟨#[], #[.slice none 0 0], []⟩).memory Tryd.f4.params.toList Rows.isaOwnsSpec.vars false #[.slice none 0 0].toList 8 = some ([.nil], [], places) :=
  ⟨[], by kernel_rfl⟩
set_option maxRecDepth 100000 in
theorem lifted_isaOwns (os : Os) (started : os.Started) (H : Type) (enc : TypeId × Value → H) (F : Stop.Interp) :
    ReturnsInHanded {} Tryd.checked os 4 .any ((Rows.OpenSpec.upto Rows.isaOwnsSpec).preRow enc Tryd.prog Tryd.f4 Rows.isaOwnsUptoRow.domain false Rows.isaOwnsUptoRow.laid) (((Rows.OpenSpec.upto Rows.isaOwnsSpec).at F).post enc Tryd.prog Tryd.f4 false true false false) := by
  obtain ⟨places, hx⟩ := reads_isaOwns os enc
  refine returnsInHanded_of_row (C := Tryd.checked) (s := (Rows.OpenSpec.upto Rows.isaOwnsSpec)) own started (by kernel_rfl) Tryd.func4
    (witness_row_at (enc := enc) (C := Tryd.checked) false (laidWorld os) #[.slice none 0 0] rfl (by kernel_rfl) (by kernel_rfl) (by kernel_rfl)
      (OpenSpec.preRow_of_cond 8 hx (by kernel_rfl) (fun k hk => by cases hk; kernel_rfl) (by kernel_rfl) (laid_met_isaOwns os))) ?_
  intro W base args ds gs before hval hW _ hcond hw hL _ _
  have hgs : gs = [] := by
    obtain ⟨_, _, _, hV, _⟩ := hW
    exact (Go.ChangeShapes.trodVars_none hV).1
  subst hgs
  have hw' : (DataW.weightsEach Tryd.prog Tryd.f4.params.toList ds).all (· ≤ reachBytes) = true := by
    have e : (Rows.OpenSpec.upto Rows.isaOwnsSpec).bare.plain.varTypes Tryd.checked.prog = [] := rfl
    rw [e, List.append_nil, List.append_nil] at hw
    exact hw
  refine contractW (Pr := pr) (L := link) (F := 227) (fn := Tryd.f4) (s := Rows.isaOwnsSpec) (tys := [.sl 40 insTy]) (tb := 4) laidOut tie (globs hL) (by kernel_rfl) (by kernel_rfl) (by kernel_rfl) Tryd.underlying4 says_isaOwns hval hW hw' ?_
  intro dss ha hbulk
  have hbd : bulkL dss.flatten ≤ 1048576 := Nat.le_trans hbulk (small (hcond _ rfl))
  obtain ⟨ds', rfl, hh⟩ := all2_one ha
  simp only [Has] at hh
  obtain ⟨els, nz, rfl, hb, _, hel⟩ := hh
  obtain ⟨is, rfl, hwf⟩ := inss_of hel
  have e : argVs [.sl 40 insTy] [[.sl (is.map Ins.cells).length nz (is.map Ins.cells).flatten]] = [dsl Ins.cells nz is] := by rw [List.length_map]; rfl
  have hsm : is.length ≤ 1048576 := bulk_els (c := Ins.cells) (sz := 5) insC (by omega) hbd
  rw [e]
  exact (law_IsaOwns hI hR hq hp hr hn hAw hLaw nz is hsm (st := st0)).mono fun v s h => h.2

theorem said_isaOwns : Rows.IsaOwnsUptoSaid :=
  OpenClaim.holds_of_cond 4 Tryd.f4 rfl rfl rfl rfl rfl rfl rfl ⟨rfl, rfl, rfl, rfl, rfl⟩ rfl rfl rfl rfl rfl (by kernel_rfl) Tryd.func4 (by kernel_rfl)
    (of_decide_eq_true (by kernel_rfl)) (by unfold Func.isWrapper; first | (rw [if_pos (by decide +kernel)]; kernel_rfl) | (rw [if_neg (by decide +kernel)]; exact ⟨rfl, rfl⟩))
    (fun os started H enc _ F => by rw [OpenClaim.pre_eq_preRow]; exact lifted_isaOwns os started H enc F)
theorem plain_isaOwns (f : FuncId) (fn : Func) (hf : Tryd.pinned.checked.prog.funcNamed "spindle/spindlelaw2.IsaOwns" = some f) (hfn : Tryd.pinned.checked.prog.funcs[f]? = some fn) :
    false = Tryd.pinned.checked.prog.looks [] ∧ ∀ (j : Nat) t, fn.params[j]? = some t → Tryd.pinned.checked.prog.wantsStandIn t = false := by
  obtain rfl : f = 4 := Option.some.inj ((show Tryd.prog.funcNamed "spindle/spindlelaw2.IsaOwns" = some 4 by kernel_rfl).symm.trans hf) |>.symm
  obtain rfl : fn = Tryd.f4 := (Option.some.inj (Tryd.func4.symm.trans hfn)).symm
  refine ⟨by kernel_rfl, fun j t ht => ?_⟩
  rw [Tryd.params4] at ht
  have hm := Array.mem_of_getElem? ht
  simp only [List.mem_toArray, List.mem_cons, List.not_mem_nil, or_false] at hm
  rcases hm with rfl
  · exact (show Tryd.prog.wantsStandIn 30 = false by kernel_rfl)
theorem card_isaOwns : Rows.IsaOwnsUptoCardSaid :=
  Claim7.holds_tied_plain_at .later [] _ _ _ _ said_isaOwns (fun _ h => by cases h) (by kernel_rfl) (fun _ h => by cases h) isaOwnsUpto_row_tie rfl ⟨rfl, rfl⟩ (by kernel_rfl) rfl plain_isaOwns (by kernel_rfl)
#print axioms card_isaOwns
end Go.Proofs.YtnemobbnlacmjaaDoor.isaOwns
