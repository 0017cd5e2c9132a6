/- 'NamesOrders' answers true for all lists of objects and numbers that may come in; the card: where the five tables of the package isa are what the program's text lays. -/
import Derived.Test.YtidigkielipghaaDoorShHnames
set_option linter.unusedVariables false
namespace Go.Proofs.YtidigkielipghaaDoor.names
open Go.Sh Go.ChangeAt
theorem says_namesOrders : SaysTrue Rows.namesOrdersSpec 2 := ⟨rfl, fun H ds h => by
  match ds, h with
  | [d0, d1], _ => exact ⟨rfl, rfl, rfl⟩⟩
theorem laid_met_namesOrders (os : Os) : laidMet Tryd.prog Rows.namesOrdersRow.laid ((laidWorld os).forCall (fun _ _ => 0) ⟨#[], #[.slice none 0 0, .int .i64 0], []⟩).memory :=
  laidMet_of_run' 8 (by kernel_rfl) (by kernel_rfl)
theorem reads_namesOrders (os : Os) {H : Type} (enc : TypeId × Value → H) : ∃ places, DataW.whole enc Tryd.prog ((laidWorld os).forCall (fun _ _ => 0) ⟨#[], #[.slice none 0 0, .int .i64 0], []⟩).memory Tryd.f3.params.toList Rows.namesOrdersSpec.vars false #[.slice none 0 0, .int .i64 0].toList 8 = some ([.nil, .lit (.int .i64 0)], [], places) :=
  ⟨[], by kernel_rfl⟩
set_option maxRecDepth 100000 in
theorem lifted_namesOrders (os : Os) (started : os.Started) (H : Type) (enc : TypeId × Value → H) (F : Stop.Interp) :
    ReturnsInHanded {} Tryd.checked os 3 .any ((OpenSpec.ofChange Rows.namesOrdersSpec).preRow enc Tryd.prog Tryd.f3 Rows.namesOrdersRow.domain false Rows.namesOrdersRow.laid) (((OpenSpec.ofChange Rows.namesOrdersSpec).at F).post enc Tryd.prog Tryd.f3 false true false false) := by
  obtain ⟨places, hx⟩ := reads_namesOrders os enc
  refine returnsInHanded_of_row (C := Tryd.checked) (s := (OpenSpec.ofChange Rows.namesOrdersSpec)) own started (by kernel_rfl) Tryd.func3
    (witness_row_at (enc := enc) (C := Tryd.checked) false (laidWorld os) #[.slice none 0 0, .int .i64 0] rfl (by kernel_rfl) (by kernel_rfl) (by kernel_rfl)
      (OpenSpec.preRow_of_cond 8 hx (by kernel_rfl) (fun k hk => by cases hk) (by kernel_rfl) (laid_met_namesOrders os))) ?_
  intro W base args ds gs before hval hW _ _ hw hL _ _
  have hgs : gs = [] := by
    obtain ⟨_, _, _, hV, _⟩ := hW
    exact (Go.ChangeShapes.trodVars_none hV).1
  subst hgs
  have hw' : (DataW.weightsEach Tryd.prog Tryd.f3.params.toList ds).all (· ≤ reachBytes) = true := by
    have e : (OpenSpec.ofChange Rows.namesOrdersSpec).bare.plain.varTypes Tryd.checked.prog = [] := rfl
    rw [e, List.append_nil, List.append_nil] at hw
    exact hw
  refine contractW (Pr := pr) (L := link) (F := 318) (fn := Tryd.f3) (s := Rows.namesOrdersSpec) (tys := [.sl 120 obTy, .int .i64]) (tb := 4) laidOut tie (globs hL) (by kernel_rfl) (by kernel_rfl) (by kernel_rfl) Tryd.underlying4 says_namesOrders hval hW hw' ?_
  intro dss ha hbulk
  obtain ⟨ds1, ds2, rfl, hh, hh2⟩ := all2_two ha
  simp only [Has] at hh hh2
  obtain ⟨els, nz, rfl, hb, _, hel⟩ := hh
  obtain ⟨seed, rfl, _⟩ := hh2
  obtain ⟨os', rfl, ho⟩ := obs_of hel
  have e : argVs [.sl 120 obTy, .int .i64] [[.sl (os'.map ObS.cells).length nz (os'.map ObS.cells).flatten], [.i .i64 seed]] = [dsl ObS.cells nz os', .d (.i .i64 seed)] := by rw [List.length_map]; rfl
  rw [List.length_map] at hb
  rw [e]
  refine (seat_NamesOrders nz seed (by omega) ho).mono ?_
  rintro v s ⟨rfl, rfl⟩
  rfl

theorem said_namesOrders : Rows.NamesOrdersSaid :=
  OpenClaim.holds_of_cond 3 Tryd.f3 rfl rfl rfl rfl rfl rfl rfl ⟨rfl, rfl, rfl, rfl, rfl⟩ rfl rfl rfl rfl rfl (by kernel_rfl) Tryd.func3 (by kernel_rfl)
    (of_decide_eq_true (by kernel_rfl)) (by unfold Func.isWrapper; first | (rw [if_pos (by decide +kernel)]; kernel_rfl) | (rw [if_neg (by decide +kernel)]; exact ⟨rfl, rfl⟩))
    (fun os started H enc _ F => by rw [OpenClaim.pre_eq_preRow]; exact lifted_namesOrders os started H enc F)
theorem plain_namesOrders (f : FuncId) (fn : Func) (hf : Tryd.pinned.checked.prog.funcNamed "spindle/spindlelaw15.NamesOrders" = some f) (hfn : Tryd.pinned.checked.prog.funcs[f]? = some fn) :
    false = Tryd.pinned.checked.prog.looks [] ∧ ∀ (j : Nat) t, fn.params[j]? = some t → Tryd.pinned.checked.prog.wantsStandIn t = false := by
  obtain rfl : f = 3 := Option.some.inj ((show Tryd.prog.funcNamed "spindle/spindlelaw15.NamesOrders" = some 3 by kernel_rfl).symm.trans hf) |>.symm
  obtain rfl : fn = Tryd.f3 := (Option.some.inj (Tryd.func3.symm.trans hfn)).symm
  refine ⟨by kernel_rfl, fun j t ht => ?_⟩
  rw [Tryd.params3] at ht
  have hm := Array.mem_of_getElem? ht
  simp only [List.mem_toArray, List.mem_cons, List.not_mem_nil, or_false] at hm
  rcases hm with rfl | rfl
  · exact (show Tryd.prog.wantsStandIn 22 = false by kernel_rfl)
  · exact (show Tryd.prog.wantsStandIn 3 = false by kernel_rfl)
theorem card_namesOrders : Rows.NamesOrdersCardSaid :=
  Claim7.holds_tied_plain_at .later [] _ _ _ _ said_namesOrders (fun _ h => by cases h) (by kernel_rfl) (fun _ h => by cases h) namesOrders_row_tie rfl ⟨rfl, rfl⟩ (by kernel_rfl) rfl plain_namesOrders (by kernel_rfl)
#print axioms card_namesOrders
end Go.Proofs.YtidigkielipghaaDoor.names
