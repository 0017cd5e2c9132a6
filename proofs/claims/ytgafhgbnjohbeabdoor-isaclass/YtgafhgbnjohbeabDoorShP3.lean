/- 'IsaClass' answers true for every number that may come in, and the number reads behind the call as it read before; the card: where the five tables of the package isa are what the program's text lays. -/
import Derived.Test.YtgafhgbnjohbeabDoorShL4
import Derived.Test.YtgafhgbnjohbeabDoorCards
import Derived.Test.YtgafhgbnjohbeabDoorTie
import Derived.WalkKit
import Derived.ProofKit
import Derived.Deep.DeepHandedRow
import Derived.Lib.LaidTab
set_option linter.unusedVariables false
namespace Go.Proofs.YtgafhgbnjohbeabDoor.isaClass
open Go.Sh Go.ChangeAt

theorem laid_tail {P : Program} {x : String × DataW Unit} {rest : List (String × DataW Unit)} {W : World} (h : laidMet P (x :: rest) W) : laidMet P rest W := by
  obtain ⟨n, d⟩ := x
  obtain ⟨ps, ⟨g, t, cs, fuel, p, q, hg, ht, hv, hd, hr, rfl⟩, hn, hc⟩ := h
  exact ⟨q, hr, (List.nodup_append.1 hn).2.1, fun b off hm => hc b off (by simp [hm])⟩
theorem repL_tab {L : Link} {W : World} {name : String} {zs : List Int} {g : Nat} (hg : Tryd.prog.globalNamed name = some g) (h : Lib.TabIs Tryd.prog W name .i64 zs) : RepL L (K.at0 L W).imm (zs.map fun n : Int => .i .i64 n) g 0 := by
  refine RepL.of fun j c hj => ?_
  rw [List.getElem?_map] at hj
  obtain ⟨z, hz, rfl⟩ := Option.map_eq_some_iff.1 hj
  have hlt := (List.getElem?_eq_some_iff.1 hz).1
  refine ⟨.int .i64 z, ⟨?_, fun h => h⟩, by simp only [RepD]⟩
  have := h.cell hg j hlt
  show W.cell? ⟨g, 0 + j, none⟩ = _
  rw [Nat.zero_add, this]
  simp [List.getD, hz]
theorem globs {W : World} (h : laidMetH Tryd.prog Rows.isaClassRow.laid W) : Globs pr link W := by
  have h : laidMet Tryd.prog Rows.isaClassRow.laid W := h
  have t2 : Lib.TabIs Tryd.prog W "spindle/isa.arithmetic" .i64 [0x00, 0x10, 0x20, 0x30, 0x40, 0x50, 0x60, 0x70, 0x90, 0xa0, 0xb0, 0xc0] := Lib.tabIs_of_head (g := 3) (by kernel_rfl) (by kernel_rfl) (t := 50) Tryd.underlying50 Tryd.underlying3 (by kernel_rfl) (by kernel_rfl) h
  have h := laid_tail h
  have t3 : Lib.TabIs Tryd.prog W "spindle/isa.compares" .i64 [0x10, 0x20, 0x30, 0x40, 0x50, 0x60, 0x70, 0xa0, 0xb0, 0xc0, 0xd0] := Lib.tabIs_of_head (g := 4) (by kernel_rfl) (by kernel_rfl) (t := 51) Tryd.underlying51 Tryd.underlying3 (by kernel_rfl) (by kernel_rfl) h
  have h := laid_tail h
  have t0 : Lib.TabIs Tryd.prog W "spindle/isa.loads" .i64 [0x71, 0x69, 0x61, 0x79, 0x91, 0x89, 0x81] := Lib.tabIs_of_head (g := 1) (by kernel_rfl) (by kernel_rfl) (t := 48) Tryd.underlying48 Tryd.underlying3 (by kernel_rfl) (by kernel_rfl) h
  have h := laid_tail h
  have t1 : Lib.TabIs Tryd.prog W "spindle/isa.stores" .i64 [0x72, 0x6a, 0x62, 0x7a, 0x73, 0x6b, 0x63, 0x7b] := Lib.tabIs_of_head (g := 2) (by kernel_rfl) (by kernel_rfl) (t := 49) Tryd.underlying49 Tryd.underlying3 (by kernel_rfl) (by kernel_rfl) h
  have h := laid_tail h
  have t4 : Lib.TabIs Tryd.prog W "spindle/isa.atomics" .i64 [0x00, 0x40, 0x50, 0xa0, 0x01, 0x41, 0x51, 0xa1, 0xe1, 0xf1] := Lib.tabIs_of_head (g := 0) (by kernel_rfl) (by kernel_rfl) (t := 47) Tryd.underlying47 Tryd.underlying3 (by kernel_rfl) (by kernel_rfl) h
  intro name cells hc
  have hc : isaTabs name = some cells := hc
  unfold isaTabs at hc
  split at hc
  · obtain rfl := Option.some.inj hc
    exact repL_tab (by kernel_rfl) t0
  · obtain rfl := Option.some.inj hc
    exact repL_tab (by kernel_rfl) t1
  · obtain rfl := Option.some.inj hc
    exact repL_tab (by kernel_rfl) t2
  · obtain rfl := Option.some.inj hc
    exact repL_tab (by kernel_rfl) t3
  · obtain rfl := Option.some.inj hc
    exact repL_tab (by kernel_rfl) t4
  · cases hc
theorem own : ownKnob Tryd.prog.godebug = none := by kernel_rfl
theorem laidOut : laidOutB Tryd.prog = true := by kernel_rfl
theorem says : SaysTrue Rows.isaClassSpec 1 := ⟨rfl, fun H ds h => by
  match ds, h with
  | [d], _ => exact ⟨rfl, rfl, rfl⟩⟩
theorem all2_one {α β : Type} {R : α → β → Prop} {x : α} {ys : List β} (h : All2 R [x] ys) : ∃ y, ys = [y] ∧ R x y := by
  cases h with
  | cons h1 h2 => cases h2; exact ⟨_, rfl, h1⟩
def lay1 (h : Array Obj) (i : Nat) (zs : List Int) : Array Obj := h.modify i fun
  | .cells _ t frozen => .cells (zs.map fun n : Int => Value.int .i64 n).toArray t frozen
  | o => o
noncomputable def laidWorld (os : Os) : World :=
  { World.holding Tryd.prog os ⟨#[], #[], []⟩ with heap := lay1 (lay1 (lay1 (lay1 (lay1 (World.holding Tryd.prog os ⟨#[], #[], []⟩).heap 3 [0x00, 0x10, 0x20, 0x30, 0x40, 0x50, 0x60, 0x70, 0x90, 0xa0, 0xb0, 0xc0]) 4 [0x10, 0x20, 0x30, 0x40, 0x50, 0x60, 0x70, 0xa0, 0xb0, 0xc0, 0xd0]) 1 [0x71, 0x69, 0x61, 0x79, 0x91, 0x89, 0x81]) 2 [0x72, 0x6a, 0x62, 0x7a, 0x73, 0x6b, 0x63, 0x7b]) 0 [0x00, 0x40, 0x50, 0xa0, 0x01, 0x41, 0x51, 0xa1, 0xe1, 0xf1] }
theorem laid_met (os : Os) : laidMet Tryd.prog Rows.isaClassRow.laid ((laidWorld os).forCall (fun _ _ => 0) ⟨#[], #[.int .i64 0], []⟩).memory :=
  laidMet_of_run' 8 (by kernel_rfl) (by kernel_rfl)
theorem reads (os : Os) {H : Type} (enc : TypeId × Value → H) : ∃ places, DataW.whole enc Tryd.prog ((laidWorld os).forCall (fun _ _ => 0) ⟨#[], #[.int .i64 0], []⟩).memory Tryd.f4.params.toList Rows.isaClassSpec.vars false #[Value.int .i64 0].toList 8 = some ([.lit (.int .i64 0)], [], places) :=
  ⟨[], by kernel_rfl⟩
set_option maxRecDepth 100000 in
theorem lifted (os : Os) (started : os.Started) (H : Type) (enc : TypeId × Value → H) (F : Stop.Interp) :
    ReturnsInHanded {} Tryd.checked os 4 .any ((OpenSpec.ofChange Rows.isaClassSpec).preRow enc Tryd.prog Tryd.f4 Rows.isaClassRow.domain false Rows.isaClassRow.laid) (((OpenSpec.ofChange Rows.isaClassSpec).at F).post enc Tryd.prog Tryd.f4 false true false false) := by
  obtain ⟨places, hx⟩ := reads os enc
  refine returnsInHanded_of_row (C := Tryd.checked) (s := OpenSpec.ofChange Rows.isaClassSpec) own started (by kernel_rfl) Tryd.func4
    (witness_row_at (enc := enc) (C := Tryd.checked) false (laidWorld os) #[.int .i64 0] rfl (by kernel_rfl) (by kernel_rfl) (by kernel_rfl)
      (OpenSpec.preRow_of_cond 8 hx (by kernel_rfl) (fun k hk => by cases hk) (by kernel_rfl) (laid_met os))) ?_
  intro W base args ds gs before hval hW _ _ hw hL _ _
  have hgs : gs = [] := by
    obtain ⟨_, _, _, hV, _⟩ := hW
    exact (Go.ChangeShapes.trodVars_none hV).1
  subst hgs
  have hw' : (DataW.weightsEach Tryd.prog Tryd.f4.params.toList ds).all (· ≤ reachBytes) = true := by
    have e : (OpenSpec.ofChange Rows.isaClassSpec).bare.plain.varTypes Tryd.checked.prog = [] := rfl
    rw [e, List.append_nil, List.append_nil] at hw
    exact hw
  refine contractW (Pr := pr) (L := link) (F := 26) (fn := Tryd.f4) (s := Rows.isaClassSpec) (tys := [.int .i64]) (tb := 4) laidOut tie (globs hL) (by kernel_rfl) (by kernel_rfl) (by kernel_rfl) Tryd.underlying4 says hval hW hw' ?_
  intro dss ha _
  obtain ⟨ds', rfl, hh⟩ := all2_one ha
  simp only [Has] at hh
  obtain ⟨n, rfl, _⟩ := hh
  exact law_w st0 n
theorem said : Rows.IsaClassSaid :=
  OpenClaim.holds_of_cond 4 Tryd.f4 rfl rfl rfl rfl rfl rfl rfl ⟨rfl, rfl, rfl, rfl, rfl⟩ rfl rfl rfl rfl rfl (by kernel_rfl) Tryd.func4 (by kernel_rfl)
    (of_decide_eq_true (by kernel_rfl)) (by unfold Func.isWrapper; first | (rw [if_pos (by decide +kernel)]; kernel_rfl) | (rw [if_neg (by decide +kernel)]; exact ⟨rfl, rfl⟩))
    (fun os started H enc _ F => by rw [OpenClaim.pre_eq_preRow]; exact lifted os started H enc F)
theorem plain (f : FuncId) (fn : Func) (hf : Tryd.pinned.checked.prog.funcNamed "spindle/spindlelaw2.IsaClass" = some f) (hfn : Tryd.pinned.checked.prog.funcs[f]? = some fn) :
    false = Tryd.pinned.checked.prog.looks [] ∧ ∀ (j : Nat) t, fn.params[j]? = some t → Tryd.pinned.checked.prog.wantsStandIn t = false := by
  obtain rfl : f = 4 := Option.some.inj ((show Tryd.prog.funcNamed "spindle/spindlelaw2.IsaClass" = some 4 by kernel_rfl).symm.trans hf) |>.symm
  obtain rfl : fn = Tryd.f4 := (Option.some.inj (Tryd.func4.symm.trans hfn)).symm
  refine ⟨by kernel_rfl, fun j t ht => ?_⟩
  rw [Tryd.params4] at ht
  obtain rfl : t = 3 := by simpa using Array.mem_of_getElem? ht
  exact (show Tryd.prog.wantsStandIn 3 = false by kernel_rfl)
theorem card : Rows.IsaClassCardSaid :=
  Claim7.holds_tied_plain_at .later [] _ _ _ _ said (fun _ h => by cases h) (by kernel_rfl) (fun _ h => by cases h) isaClass_row_tie rfl ⟨rfl, rfl⟩ (by kernel_rfl) rfl plain (by kernel_rfl)
#print axioms card
end Go.Proofs.YtgafhgbnjohbeabDoor.isaClass
