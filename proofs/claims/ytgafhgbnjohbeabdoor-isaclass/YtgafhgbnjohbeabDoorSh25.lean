/- The same for triples. -/
import Derived.Test.YtgafhgbnjohbeabDoorSh24
set_option linter.unusedVariables false
set_option linter.unusedSimpArgs false
namespace Go.Sh
open Go.RowKit Go.ChangeShapes
theorem lookup_mem {α : Type} : ∀ {l : List (Nat × α)} {k : Nat} {v : α}, l.lookup k = some v → (k, v) ∈ l
  | [], k, v, h => by simp at h
  | (j, u) :: r, k, v, h => by
    simp only [List.lookup_cons] at h
    split at h
    · rename_i he
      simp only [Option.some.injEq] at h
      subst h
      have : k = j := by simpa using he
      subst this
      exact List.mem_cons_self
    · exact List.mem_cons_of_mem _ (lookup_mem h)
theorem tied_of {P : Program} {Pr : Prog} {L : Link} {fns : List (Nat × SFn)} (hp : ∀ f, Pr.fn f = fns.lookup f) (h : ∀ x ∈ fns, ∃ fn, P.funcs[L.fn x.1]? = some fn ∧ okFn P Pr L fn x.2 = true) : Tied P Pr L := by
  intro f sf hf
  rw [hp] at hf
  exact h (f, sf) (lookup_mem hf)
section
variable {P : Program} {Pr : Prog} {L : Link} {W : World}
theorem walk_trueW (ht : Tie P Pr L) (hg : Globs Pr L W) {F : Nat} {xs : List V} {vals : List Value} (ha : All2 (Rep (K.at0 L W)) xs vals) (h : CallW Pr F xs st0 fun r _ => r = .d (.b true)) :
    Calls P (L.fn F) vals.toArray W fun e w' => e = .returned (.bool true) ∧ Below W.heap.size W w' := by
  refine (h P L ht (K.at0 L W) vals rfl (Inv.at0 hg) ha).mono ?_
  rintro e w' ⟨κ', v, r, st', rfl, rfl, h1, h2, h3, h4, rfl⟩
  have h3 : v = .bool true := rep_b.1 h3
  subst h3
  refine ⟨rfl, ?_⟩
  have := h2.below
  rw [h1.w0] at this
  exact this
variable {H : Type} {enc : TypeId × Value → H} {sp : Nat → Bool} {base : Nat}
theorem contractW (hl : laidOutB P = true) (ht : Tie P Pr L) (hg : Globs Pr L W) {F : Nat} {fn : Func} {s : ChangeSpec} {tys : List Ty} (hty : tysOk P fn.params.toList tys = true)
    (hr : (fn.params.toList.all fun t => P.readableRec t && decide (t < P.types.size)) = true) {tb : TypeId} (hres : fn.resultTypes.toList = [tb]) (hub : P.underlying tb = some .bool) (hs : SaysTrue s fn.params.toList.length)
    {args : Array Value} {ds gs : List (DataW H)} {before : List MemPlace} (hval : ∀ (j : Nat) t v, fn.params[j]? = some t → args[j]? = some v → Value.okWide P W .any base t v)
    (hW : DataW.Whole enc P fn.params.toList s.vars false W args.toList ds gs before) (hw : (DataW.weightsEach P fn.params.toList ds).all (· ≤ reachBytes) = true)
    (hden : ∀ dss, All2 Has tys dss → bulkL dss.flatten ≤ bulkWs (ds ++ gs) → CallW Pr F (argVs tys dss) st0 fun r _ => r = .d (.b true)) :
    Calls P (L.fn F) args W fun e W' => ∃ v, e = .returned v ∧ s.post enc P fn false true false false W args v W' := by
  have hW' := hW
  obtain ⟨p, q, hA, hV, rfl, hfz, hnd⟩ := hW
  obtain ⟨hs1, hs2⟩ := hs
  rw [hs1] at hV
  obtain ⟨rfl, rfl⟩ := trodVars_none hV
  obtain ⟨dss, h1, h2, h3⟩ := args_rep (L := L) hty (fun j t v ht hv => hval j t v (by simpa using ht) (by simpa using hv)) hA hw
  rw [List.append_nil] at hden
  have hd := hden dss h2 h3
  have := walk_trueW ht hg h1 hd
  rw [show args.toList.toArray = args by simp] at this
  refine this.mono ?_
  rintro e W' ⟨rfl, bel⟩
  obtain ⟨hs2, hs3, hs4⟩ := hs2 H ds (trodAll_length hA)
  have hsz : fn.resultTypes.size = 1 := by rw [← Array.length_toList, hres]; rfl
  refine ⟨_, rfl, ds, [], _, [], p, [], hW', ?_, ?_, ?_, bel.frame _, fun h => by cases h⟩
  · rw [List.append_nil, hs2, hres, hsz]
    exact trodAll_mk1 (shut_bool hub _)
  · rw [List.append_nil, hs3]
    exact trodAll_below hl bel hr hA
  · rw [List.append_nil, hs4, hs1]
    rfl
end
end Go.Sh
