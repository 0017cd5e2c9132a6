/- From a shadow run to a law's row: what is read, the run, what stands behind. -/
import Derived.Test.YtgafhgbnjohbeabDoorSh21
import Derived.ChangeOld
set_option linter.unusedVariables false
set_option linter.unusedSimpArgs false
namespace Go.Sh
open Go.RowKit Go.ChangeShapes

def K.at0 (L : Link) (W : World) : K := { L, w0 := W, w := W, wr := fun _ _ => False, ρ := [], tk := [] }
def st0 : St := { heap := [], tips := [], floor := 0, tfloor := 0 }
section
variable {P : Program} {Pr : Prog} {L : Link} {W : World}
def Globs (Pr : Prog) (L : Link) (W : World) : Prop := ∀ name cells, Pr.glob name = some cells → RepL L (K.at0 L W).imm cells (L.gl name) 0
theorem Inv.at0 (hg : Globs Pr L W) : Inv Pr (K.at0 L W) st0 :=
  ⟨Below.refl _ _, rfl, rfl, fun i j b h => by simp [K.at0] at h, fun i b h => by simp [K.at0] at h, fun id cs h => by simp [St.row, st0] at h, fun id cs h => by simp [St.mapOf, st0] at h, fun t tok h => by simp [K.at0] at h,
    fun t t' tok tok' g h => by simp [K.at0] at h, fun b o h => h.elim, hg⟩
/-- A law's run that answers true. -/
theorem walk_true (hm : P.follows .mixedOrders = true) (ht : Tied P Pr L) (hg : Globs Pr L W) {F : Nat} {xs : List V} {vals : List Value} (ha : All2 (Rep (K.at0 L W)) xs vals) {st' : St}
    (h : den Pr F xs st0 = some (.d (.b true), st')) : Calls P (L.fn F) vals.toArray W fun e w' => e = .returned (.bool true) ∧ Below W.heap.size W w' := by
  obtain ⟨k, h⟩ := den_iff.1 h
  refine (runF_sound hm ht k (K.at0 L W) st0 F xs vals _ st' rfl (Inv.at0 hg) ha h).mono ?_
  rintro e w' ⟨κ', v, rfl, rfl, h1, h2, h3⟩
  have h3 : v = .bool true := rep_b.1 h3
  subst h3
  refine ⟨rfl, ?_⟩
  have := h2.below
  rw [h1.w0] at this
  exact this

/-! ### Arguments -/
def Ty.isAgg : Ty → Bool
  | .agg _ => true
  | _ => false
def argV (t : Ty) (ds : List D) : V := if t.isAgg then .agg (ofDs ds) else .d (ds.headD .np)
def argVs : List Ty → List (List D) → List V
  | t :: ts, d :: ds => argV t d :: argVs ts ds
  | _, _ => []
def tysOk (P : Program) : List TypeId → List Ty → Bool
  | [], [] => true
  | t :: ts, y :: ys => tyOk P t y && tysOk P ts ys
  | _, _ => false
theorem all2_ofDs {κ : K} {ds : List D} {vs : List Value} (h : All2 (RepD κ.L κ.imm) ds vs) : All2 (RepC κ) (ofDs ds) vs := by
  induction h with
  | nil => exact .nil
  | cons h _ ih => exact .cons h ih
theorem imm0 (L : Link) (W : World) : ∀ b o x, W.cell? ⟨b, o, none⟩ = some x → (K.at0 L W).imm b o x := fun b o x h => ⟨h, fun h => h⟩
variable {H : Type} {enc : TypeId × Value → H} {sp : Nat → Bool} {base : Nat}
theorem arg_rep {t : TypeId} {y : Ty} {v : Value} {d : DataW H} {ps : List MemPlace} (hok : tyOk P t y = true) (hv : Value.okWide P W .any base t v) (h : DataW.Trod enc P W 0 sp true t v d ps) (hw : (d.weights P t).all (· ≤ reachBytes) = true) :
    ∃ ds, Rep (K.at0 L W) (argV y ds) v ∧ Has y ds ∧ bulkL ds ≤ bulkW d := by
  obtain ⟨fuel, h⟩ := h
  obtain ⟨ds, h1, h2, h3⟩ := read_ty (L := L) (I := (K.at0 L W).imm) (imm0 L W) hok h hw
  refine ⟨ds, ?_, h2, h3⟩
  have single : y.isAgg = false → (∀ cs, v ≠ .agg cs) → Rep (K.at0 L W) (argV y ds) v := by
    intro hy hne
    have hc : v.cells.toList = [v] := by
      cases v <;> first | rfl | exact (hne _ rfl).elim
    rw [hc] at h1
    unfold argV
    rw [hy]
    cases h1 with
    | cons h1 h4 =>
      cases h4
      exact h1
  cases y with
  | agg fs =>
    simp only [tyOk] at hok
    split at hok
    case h_2 => cases hok
    rename_i gs hu
    unfold Value.okWide at hv
    rw [hu] at hv
    simp only at hv
    obtain ⟨cs, rfl, _⟩ := hv
    refine ⟨cs.toList, by simp, ?_⟩
    exact all2_ofDs h1
  | int k =>
    refine single rfl ?_
    rintro cs rfl
    simp only [tyOk] at hok
    split at hok
    case h_2 => cases hok
    rename_i hu
    simp [Value.okWide, Cell.okWide, Cell.ok, hu] at hv
  | bool =>
    refine single rfl ?_
    rintro cs rfl
    simp only [tyOk] at hok
    split at hok
    case h_2 => cases hok
    rename_i hu
    simp [Value.okWide, Cell.okWide, Cell.ok, hu] at hv
  | str =>
    refine single rfl ?_
    rintro cs rfl
    simp only [tyOk] at hok
    split at hok
    case h_2 => cases hok
    rename_i hu
    simp [Value.okWide, Cell.okWide, Cell.ok, hu] at hv
  | sl b e =>
    refine single rfl ?_
    rintro cs rfl
    simp only [tyOk] at hok
    split at hok
    case h_2 => cases hok
    rename_i hu
    simp [Value.okWide, Cell.okWide, Cell.ok, hu] at hv
theorem args_rep : ∀ {ts : List TypeId} {ys : List Ty} {vs : List Value} {ds : List (DataW H)} {ps : List MemPlace}, tysOk P ts ys = true → (∀ (j : Nat) t v, ts[j]? = some t → vs[j]? = some v → Value.okWide P W .any base t v) →
    DataW.TrodAll enc P W 0 sp true ts vs ds ps → (DataW.weightsEach P ts ds).all (· ≤ reachBytes) = true → ∃ dss, All2 (Rep (K.at0 L W)) (argVs ys dss) vs ∧ All2 Has ys dss ∧ bulkL dss.flatten ≤ bulkWs ds
  | [], ys, vs, ds, ps, hok, hv, h, hw => by
    cases ys with
    | cons => simp [tysOk] at hok
    | nil =>
      cases vs with
      | cons => simp [DataW.TrodAll] at h
      | nil => exact ⟨[], .nil, .nil, by simp [bulkL]⟩
  | t :: ts, ys, vs, ds, ps, hok, hv, h, hw => by
    cases ys with
    | nil => simp [tysOk] at hok
    | cons y ys =>
      simp only [tysOk, Bool.and_eq_true] at hok
      cases vs with
      | nil => simp [DataW.TrodAll] at h
      | cons v vs =>
        cases ds with
        | nil => simp [DataW.TrodAll] at h
        | cons d ds =>
          obtain ⟨p, q, h1, h2, rfl⟩ := h
          simp only [DataW.weightsEach] at hw
          obtain ⟨hw1, hw2⟩ := all_append hw
          obtain ⟨a, a1, a2, a3⟩ := arg_rep (L := L) hok.1 (hv 0 t v rfl rfl) h1 hw1
          obtain ⟨dss, b1, b2, b3⟩ := args_rep hok.2 (fun j t v ht hv' => hv (j + 1) t v (by simpa using ht) (by simpa using hv')) h2 hw2
          exact ⟨a :: dss, .cons a1 b1, .cons a2 b2, by rw [List.flatten_cons, bulkL_append]; simp only [bulkWs]; omega⟩
theorem trodAll_lt : ∀ {ts : List TypeId} {vs : List Value} {ds : List (DataW H)} {ps : List MemPlace}, DataW.TrodAll enc P W 0 sp true ts vs ds ps → ∀ p ∈ ps, p.block < W.heap.size
  | [], vs, ds, ps, h, p, hp => by
    cases vs <;> cases ds <;> simp [DataW.TrodAll] at h
    subst h
    cases hp
  | t :: ts, vs, ds, ps, h, p, hp => by
    cases vs with
    | nil => simp [DataW.TrodAll] at h
    | cons v vs =>
      cases ds with
      | nil => simp [DataW.TrodAll] at h
      | cons d ds =>
        obtain ⟨a, b, h1, h2, rfl⟩ := h
        rw [List.mem_append] at hp
        rcases hp with hp | hp
        · obtain ⟨n, h1⟩ := h1
          exact DataW.trod_lt n _ _ _ h1 p hp
        · exact trodAll_lt h2 p hp
theorem trodAll_below (hl : laidOutB P = true) {W' : World} (hb : Below W.heap.size W W') : ∀ {ts : List TypeId} {vs : List Value} {ds : List (DataW H)} {ps : List MemPlace}, (ts.all fun t => P.readableRec t && decide (t < P.types.size)) = true →
    DataW.TrodAll enc P W 0 (fun _ => true) true ts vs ds ps → DataW.TrodAll enc P W' 0 (fun b => decide (b < W.heap.size)) true ts vs ds ps
  | [], vs, ds, ps, _, h => by
    cases vs <;> cases ds <;> simp [DataW.TrodAll] at h ⊢
    exact h
  | t :: ts, vs, ds, ps, hr, h => by
    cases vs with
    | nil => simp [DataW.TrodAll] at h
    | cons v vs =>
      cases ds with
      | nil => simp [DataW.TrodAll] at h
      | cons d ds =>
        obtain ⟨a, b, h1, h2, rfl⟩ := h
        simp only [List.all_cons, Bool.and_eq_true, decide_eq_true_eq] at hr
        refine ⟨a, b, Below.trod hl hr.1.1 hr.1.2 h1 hb ?_, trodAll_below hl hb hr.2 h2, rfl⟩
        obtain ⟨n, h1⟩ := h1
        exact DataW.trod_lt n _ _ _ h1
/-- What a law's specification says. -/
def SaysTrue (s : ChangeSpec) (n : Nat) : Prop := s.vars = [] ∧ ∀ (H : Type) (ds : List (DataW H)), ds.length = n → (s.fn H ds).results = [.lit (.bool true)] ∧ (s.fn H ds).args = ds ∧ (s.fn H ds).vars = []
theorem trodAll_length : ∀ {ts : List TypeId} {vs : List Value} {ds : List (DataW H)} {ps : List MemPlace}, DataW.TrodAll enc P W 0 sp true ts vs ds ps → ds.length = ts.length
  | [], vs, ds, ps, h => by cases vs <;> cases ds <;> simp [DataW.TrodAll] at h ⊢
  | t :: ts, vs, ds, ps, h => by
    cases vs with
    | nil => simp [DataW.TrodAll] at h
    | cons v vs =>
      cases ds with
      | nil => simp [DataW.TrodAll] at h
      | cons d ds =>
        obtain ⟨a, b, h1, h2, rfl⟩ := h
        simp [trodAll_length h2]
theorem contract (hl : laidOutB P = true) (hm : P.follows .mixedOrders = true) (ht : Tied P Pr L) (hg : Globs Pr L W) {F : Nat} {fn : Func} {s : ChangeSpec} {tys : List Ty} (hty : tysOk P fn.params.toList tys = true)
    (hr : (fn.params.toList.all fun t => P.readableRec t && decide (t < P.types.size)) = true) {tb : TypeId} (hres : fn.resultTypes.toList = [tb]) (hub : P.underlying tb = some .bool) (hs : SaysTrue s fn.params.toList.length)
    {args : Array Value} {ds gs : List (DataW H)} {before : List MemPlace} (hval : ∀ (j : Nat) t v, fn.params[j]? = some t → args[j]? = some v → Value.okWide P W .any base t v)
    (hW : DataW.Whole enc P fn.params.toList s.vars false W args.toList ds gs before) (hw : (DataW.weightsEach P fn.params.toList ds).all (· ≤ reachBytes) = true)
    (hden : ∀ dss, All2 Has tys dss → bulkL dss.flatten ≤ bulkWs (ds ++ gs) → ∃ st', den Pr F (argVs tys dss) st0 = some (.d (.b true), st')) :
    Calls P (L.fn F) args W fun e W' => ∃ v, e = .returned v ∧ s.post enc P fn false true false false W args v W' := by
  have hW' := hW
  obtain ⟨p, q, hA, hV, rfl, hfz, hnd⟩ := hW
  obtain ⟨hs1, hs2⟩ := hs
  rw [hs1] at hV
  obtain ⟨rfl, rfl⟩ := trodVars_none hV
  obtain ⟨dss, h1, h2, h3⟩ := args_rep (L := L) hty (fun j t v ht hv => hval j t v (by simpa using ht) (by simpa using hv)) hA hw
  rw [List.append_nil] at hden
  obtain ⟨st', hd⟩ := hden dss h2 h3
  have := walk_true hm ht hg h1 hd
  rw [show args.toList.toArray = args by simp] at this
  refine this.mono ?_
  rintro e W' ⟨rfl, bel⟩
  obtain ⟨hs2, hs3, hs4⟩ := hs2 H ds (trodAll_length hA)
  have hsz : fn.resultTypes.size = 1 := by rw [← Array.length_toList, hres]; rfl
  refine ⟨_, rfl, ds, [], _, [], p, [], hW', ?_, ?_, ?_, bel.frame _, fun h => by cases h⟩
  · rw [List.append_nil, hs2, hres, hsz]
    exact trodAll_mk1 (shut_bool hub _)
  · rw [List.append_nil, hs3]
    exact trodAll_below hl bel hr hA
  · rw [List.append_nil, hs4, hs1]
    rfl
end
end Go.Sh
