/- 'NamesBind' answers true for all lists of objects that may come in; the card: where the five tables of the package isa are what the program's text lays. -/
import Derived.Test.YtidigkielipghaaDoorShHnamesBind
set_option linter.unusedVariables false
namespace Go.Proofs.YtidigkielipghaaDoor.namesBind
open Go.Sh Go.ChangeAt
theorem says_namesBind : SaysTrue Rows.namesBindSpec 1 := ⟨rfl, fun H ds h => by
  match ds, h with
  | [d0], _ => exact ⟨rfl, rfl, rfl⟩⟩
theorem laid_met_namesBind (os : Os) : laidMet Tryd.prog Rows.namesBindRow.laid ((laidWorld os).forCall (fun _ _ => 0) ⟨#[], #[.slice none 0 0], []⟩).memory :=
  laidMet_of_run' 8 (by kernel_rfl) (by kernel_rfl)
theorem reads_namesBind (os : Os) {H : Type} (enc : TypeId × Value → H) : ∃ places, DataW.whole enc Tryd.prog ((laidWorld os).forCall (fun _ _ => 0) ⟨#[], #[.slice none 0 0], []⟩).memory Tryd.f4.params.toList Rows.namesBindSpec.vars false #[.slice none 0 0].toList 8 = some ([.nil], [], places) :=
  ⟨[], by kernel_rfl⟩
set_option maxRecDepth 100000 in
theorem lifted_namesBind (os : Os) (started : os.Started) (H : Type) (enc : TypeId × Value → H) (F : Stop.Interp) :
    ReturnsInHanded {} Tryd.checked os 4 .any ((OpenSpec.ofChange Rows.namesBindSpec).preRow enc Tryd.prog Tryd.f4 Rows.namesBindRow.domain false Rows.namesBindRow.laid) (((OpenSpec.ofChange Rows.namesBindSpec).at F).post enc Tryd.prog Tryd.f4 false true false false) := by
  obtain ⟨places, hx⟩ := reads_namesBind os enc
  refine returnsInHanded_of_row (C := Tryd.checked) (s := (OpenSpec.ofChange Rows.namesBindSpec)) own started (by kernel_rfl) Tryd.func4
    (witness_row_at (enc := enc) (C := Tryd.checked) false (laidWorld os) #[.slice none 0 0] rfl (by kernel_rfl) (by kernel_rfl) (by kernel_rfl)
      (OpenSpec.preRow_of_cond 8 hx (by kernel_rfl) (fun k hk => by cases hk) (by kernel_rfl) (laid_met_namesBind os))) ?_
  intro W base args ds gs before hval hW _ _ hw hL _ _
  have hgs : gs = [] := by
    obtain ⟨_, _, _, hV, _⟩ := hW
    exact (Go.ChangeShapes.trodVars_none hV).1
  subst hgs
  have hw' : (DataW.weightsEach Tryd.prog Tryd.f4.params.toList ds).all (· ≤ reachBytes) = true := by
    have e : (OpenSpec.ofChange Rows.namesBindSpec).bare.plain.varTypes Tryd.checked.prog = [] := rfl
    rw [e, List.append_nil, List.append_nil] at hw
    exact hw
  refine contractW (Pr := pr) (L := link) (F := 322) (fn := Tryd.f4) (s := Rows.namesBindSpec) (tys := [.sl 120 obTy]) (tb := 4) laidOut tie (globs hL) (by kernel_rfl) (by kernel_rfl) (by kernel_rfl) Tryd.underlying4 says_namesBind hval hW hw' ?_
  intro dss ha hbulk
  obtain ⟨ds', rfl, hh⟩ := all2_one ha
  simp only [Has] at hh
  obtain ⟨els, nz, rfl, hb, _, hel⟩ := hh
  obtain ⟨os', rfl, ho⟩ := obs_of hel
  have e : argVs [.sl 120 obTy] [[.sl (os'.map ObS.cells).length nz (os'.map ObS.cells).flatten]] = [dsl ObS.cells nz os'] := by rw [List.length_map]; rfl
  rw [List.length_map] at hb
  rw [e]
  exact CallW.of_den (law_NamesBind nz (by omega) ho) rfl

theorem said_namesBind : Rows.NamesBindSaid :=
  OpenClaim.holds_of_cond 4 Tryd.f4 rfl rfl rfl rfl rfl rfl rfl ⟨rfl, rfl, rfl, rfl, rfl⟩ rfl rfl rfl rfl rfl (by kernel_rfl) Tryd.func4 (by kernel_rfl)
    (of_decide_eq_true (by kernel_rfl)) (by unfold Func.isWrapper; first | (rw [if_pos (by decide +kernel)]; kernel_rfl) | (rw [if_neg (by decide +kernel)]; exact ⟨rfl, rfl⟩))
    (fun os started H enc _ F => by rw [OpenClaim.pre_eq_preRow]; exact lifted_namesBind os started H enc F)
theorem plain_namesBind (f : FuncId) (fn : Func) (hf : Tryd.pinned.checked.prog.funcNamed "spindle/spindlelaw15.NamesBind" = some f) (hfn : Tryd.pinned.checked.prog.funcs[f]? = some fn) :
    false = Tryd.pinned.checked.prog.looks [] ∧ ∀ (j : Nat) t, fn.params[j]? = some t → Tryd.pinned.checked.prog.wantsStandIn t = false := by
  obtain rfl : f = 4 := Option.some.inj ((show Tryd.prog.funcNamed "spindle/spindlelaw15.NamesBind" = some 4 by kernel_rfl).symm.trans hf) |>.symm
  obtain rfl : fn = Tryd.f4 := (Option.some.inj (Tryd.func4.symm.trans hfn)).symm
  refine ⟨by kernel_rfl, fun j t ht => ?_⟩
  rw [Tryd.params4] at ht
  have hm := Array.mem_of_getElem? ht
  simp only [List.mem_toArray, List.mem_cons, List.not_mem_nil, or_false] at hm
  rcases hm with rfl
  · exact (show Tryd.prog.wantsStandIn 22 = false by kernel_rfl)
theorem card_namesBind : Rows.NamesBindCardSaid :=
  Claim7.holds_tied_plain_at .later [] _ _ _ _ said_namesBind (fun _ h => by cases h) (by kernel_rfl) (fun _ h => by cases h) namesBind_row_tie rfl ⟨rfl, rfl⟩ (by kernel_rfl) rfl plain_namesBind (by kernel_rfl)
#print axioms card_namesBind
end Go.Proofs.YtidigkielipghaaDoor.namesBind
