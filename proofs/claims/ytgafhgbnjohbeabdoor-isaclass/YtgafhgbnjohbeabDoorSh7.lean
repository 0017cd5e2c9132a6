/- Slices' bounds, interface values, tuples, structs that are built. -/
import Derived.Test.YtgafhgbnjohbeabDoorSh6
set_option linter.unusedVariables false
set_option linter.unusedSimpArgs false
namespace Go.Sh
open Go.RowKit
section
variable {P : Program} {Pr : Prog} {κ : K} {st : St} {w : World}

def ORep (κ : K) : Option V → Option Value → Prop
  | none, none => True
  | some x, some v => Rep κ x v
  | _, _ => False
theorem run_sliceBound' {k : IntKind} {i : Int} {y : Nat} {code : BoundsCode} (h : 0 ≤ i ∧ i ≤ y) : (Instr.sliceBound (.int k i) y code).run P w = .ok i.toNat w := by
  simp [Instr.sliceBound, asIntOf, h]
theorem bnd_sound {x : Option V} {v : Option Value} {dflt y r : Nat} (h : bnd x dflt y = some r) (hx : ORep κ x v) : (v = none ∧ r = dflt) ∨ ∃ u, v = some u ∧ ∀ code, (Instr.sliceBound u y code).run P w = .ok r w := by
  unfold bnd at h
  cases x with
  | none =>
    cases v with
    | none => simp only [Option.some.injEq] at h; exact .inl ⟨rfl, h.symm⟩
    | some u => exact hx.elim
  | some x =>
    cases v with
    | none => exact hx.elim
    | some u =>
      simp only at h
      split at h
      · rename_i i hi
        obtain ⟨k, rfl⟩ := intV_rep hi hx
        split at h
        · rename_i hb
          simp only [Option.some.injEq] at h
          subst h
          exact .inr ⟨_, rfl, fun code => run_sliceBound' hb⟩
        · cases h
      · cases h
theorem bnds_sound {b : Bool} {n cap : Nat} {lo hi mx : Option V} {vl vh vm : Option Value} {l h m : Nat} (hb : bnds n cap lo hi mx = some (l, h, m)) (hl : ORep κ lo vl) (hh : ORep κ hi vh) (hm : ORep κ mx vm) (hmh : mx.isSome = true → hi.isSome = true) :
    (Instr.sliceBounds b n cap vl vh vm).run P w = .ok (l, h, m) w := by
  unfold bnds at hb
  split at hb
  · cases hb
  rename_i m' h1
  split at hb
  · cases hb
  rename_i h' h2
  split at hb
  · cases hb
  rename_i l' h3
  simp only [Option.some.injEq, Prod.mk.injEq] at hb
  obtain ⟨rfl, rfl, rfl⟩ := hb
  have b1 := bnd_sound (P := P) (w := w) h1 hm
  have b2 := bnd_sound (P := P) (w := w) h2 hh
  have b3 := bnd_sound (P := P) (w := w) h3 hl
  unfold Instr.sliceBounds
  rcases b1 with ⟨rfl, rfl⟩ | ⟨um, rfl, r1⟩
  · rcases b2 with ⟨rfl, rfl⟩ | ⟨uh, rfl, r2⟩
    · rcases b3 with ⟨rfl, rfl⟩ | ⟨ul, rfl, r3⟩
      · simp
      · simp [r3]
    · rcases b3 with ⟨rfl, rfl⟩ | ⟨ul, rfl, r3⟩
      · simp [r2]
      · simp [r2, r3]
  · rcases b2 with ⟨rfl, rfl⟩ | ⟨uh, rfl, r2⟩
    · cases mx with
      | none => exact hm.elim
      | some x =>
        have := hmh rfl
        cases hi with
        | none => cases this
        | some y => exact hh.elim
    · rcases b3 with ⟨rfl, rfl⟩ | ⟨ul, rfl, r3⟩
      · simp [r1, r2]
      · simp [r1, r2, r3]
theorem bnds_le {n cap : Nat} {lo hi mx : Option V} {l h m : Nat} (hb : bnds n cap lo hi mx = some (l, h, m)) (hn : n ≤ cap) (hmx : mx.isSome = true → hi.isSome = true) : l ≤ h ∧ h ≤ m ∧ m ≤ cap := by
  unfold bnds at hb
  split at hb
  · cases hb
  rename_i m' h1
  split at hb
  · cases hb
  rename_i h' h2
  split at hb
  · cases hb
  rename_i l' h3
  simp only [Option.some.injEq, Prod.mk.injEq] at hb
  obtain ⟨rfl, rfl, rfl⟩ := hb
  have key : ∀ {x : Option V} {d y r : Nat}, bnd x d y = some r → (x = none ∧ r = d) ∨ r ≤ y := by
    intro x d y r hx
    unfold bnd at hx
    cases x with
    | none => simp only [Option.some.injEq] at hx; exact .inl ⟨rfl, hx.symm⟩
    | some v =>
      simp only at hx
      split at hx
      · split at hx
        · rename_i hb
          simp only [Option.some.injEq] at hx
          exact .inr (by omega)
        · cases hx
      · cases hx
  rcases key h1 with ⟨rfl, rfl⟩ | k1 <;> rcases key h2 with ⟨rfl, rfl⟩ | k2 <;> rcases key h3 with ⟨rfl, rfl⟩ | k3 <;> first
    | omega
    | (exfalso; cases mx with
        | none => simp [bnd] at h1; omega
        | some x => exact absurd (hmx rfl) (by simp))
    | (cases mx with
        | none => simp [bnd] at h1; omega
        | some x => exact absurd (hmx rfl) (by simp))

theorem bnd_wider {x : Option V} {d y y' r : Nat} (h : bnd x d y = some r) (hy : y ≤ y') : bnd x d y' = some r := by
  unfold bnd at h ⊢
  cases x with
  | none => exact h
  | some v =>
    simp only at h ⊢
    split at h
    · split at h
      · rename_i hc
        rw [if_pos ⟨hc.1, by omega⟩]
        exact h
      · cases h
    · cases h
/-- A slice of pure data, cut. -/
theorem slD_sound {e : TypeId} {size n : Nat} {nz : Bool} {cs : List D} {v : Value} (hs : szIs P e size = true) {xt : TypeId} (hu : P.underlying xt = some (.slice e)) (hr : RepD κ.L κ.imm (.sl n nz cs) v) {lo hi : Option V} {vl vh : Option Value} {l h m : Nat}
    (hb : bnds n n lo hi none = some (l, h, m)) (hl : ORep κ lo vl) (hh : ORep κ hi vh) : ∃ u, (Instr.slice xt v vl vh none).run P w = .ok u w ∧ RepD κ.L κ.imm (.sl (h - l) nz ((cs.drop (l * size)).take ((h - l) * size))) u := by
  simp only [RepD] at hr
  obtain ⟨A, cap, rfl, h1, h2, h3, h4⟩ := hr
  have hle := bnds_le hb (Nat.le_refl _) (by simp)
  -- the same bounds within the capacity
  have hb' : bnds n cap lo hi none = some (l, h, cap) := by
    unfold bnds at hb ⊢
    have e1 : bnd none n n = some n := rfl
    have e2 : bnd none cap cap = some cap := rfl
    rw [e1] at hb
    rw [e2]
    simp only at hb ⊢
    split at hb
    · cases hb
    · rename_i r hr
      rw [bnd_wider hr h1]
      simp only
      split at hb
      · cases hb
      · simp only [Option.some.injEq, Prod.mk.injEq] at hb ⊢
        exact ⟨hb.1, hb.2.1, trivial⟩
  have hrun := bnds_sound (P := P) (w := w) (b := true) hb' hl hh (vm := none) trivial (by simp)
  refine ⟨.slice (if cap = l then A else A.map (·.add (l * size))) (h - l) (cap - l), ?_, ?_⟩
  · simp [Instr.slice, run_underlying hu, hrun, run_sizeOf hs]
  · simp only [RepD]
    refine ⟨_, _, rfl, by omega, ?_, ?_, ?_⟩
    · subst h2
      split <;> simp
    · intro hn
      have : A = none := by
        split at hn
        · exact hn
        · simpa using hn
      have := h3 this
      omega
    · rcases h4 with rfl | ⟨b, o, rfl, hl4⟩
      · exact .inl (by simp)
      · by_cases hc : cap = l
        · left
          have : h - l = 0 := by omega
          simp [this]
        · right
          refine ⟨b, o + l * size, ?_, (hl4.drop _).take _⟩
          rw [if_neg hc]
          simp [Addr.add_lit]
theorem slc_sound {xt : TypeId} {size : Nat} (ht : slIs P xt size = true) {x : V} {lo hi mx : Option V} {z : V} (h : slcV size x lo hi mx = some z) {vx : Value} {vl vh vm : Option Value} (hx : Rep κ x vx) (hl : ORep κ lo vl) (hh : ORep κ hi vh) (hm : ORep κ mx vm) (hmh : mx.isSome = true → hi.isSome = true) :
    ∃ v, (Instr.sliceAt xt vx vl vh vm).run P w = .ok v w ∧ Rep κ z v := by
  obtain ⟨e, hu, hs⟩ := slIs_spec ht
  have hat : ∀ u, (Instr.sliceAt xt u vl vh vm).run P w = (Instr.slice xt u vl vh vm).run P w := fun u => by simp [Instr.sliceAt, run_underlying hu]
  rw [hat]
  have hnone : ∀ {b : Bool}, mx.isSome = false → vm = none := fun h => by
    cases mx with
    | none => cases vm with
      | none => rfl
      | some v => exact hm.elim
    | some x => cases h
  unfold slcV at h
  split at h
  · split at h
    · cases h
    · rename_i hnm
      simp only [Option.map_eq_some_iff] at h
      obtain ⟨⟨l, h', m⟩, hb, rfl⟩ := h
      obtain rfl := hnone (b := true) (by simpa using hnm)
      exact slD_sound hs hu hx hb hl hh
  · split at h
    · cases h
    · rename_i hnm
      simp only [Option.map_eq_some_iff] at h
      obtain ⟨⟨l, h', m⟩, hb, rfl⟩ := h
      obtain rfl := hnone (b := true) (by simpa using hnm)
      exact slD_sound hs hu hx.1 hb hl hh
  · rename_i sz id off n cap
    split at h
    case isFalse => cases h
    rename_i hsz
    rw [← hsz] at hs
    simp only [Option.map_eq_some_iff] at h
    obtain ⟨⟨l, h', m⟩, hb, rfl⟩ := h
    dsimp only
    obtain ⟨b, o, h1, rfl, h2, ho⟩ := hx
    have hrun := bnds_sound (P := P) (w := w) (b := true) hb hl hh hm hmh
    have hle := bnds_le hb h2 hmh
    refine ⟨.slice (if m = l then some ⟨b, o, none⟩ else some ((⟨b, o, none⟩ : Addr).add (l * sz))) (h' - l) (m - l), by simp [Instr.slice, run_underlying hu, hrun, run_sizeOf hs], ?_⟩
    by_cases hc : m = l
    · exact ⟨b, o, h1, by rw [if_pos hc], by omega, .inl (by omega)⟩
    · obtain rfl := ho.resolve_left (by omega)
      exact ⟨b, _, h1, by rw [if_neg hc, Addr.add_lit], by omega, .inr (by rw [hsz])⟩
  · cases h
end
end Go.Sh
