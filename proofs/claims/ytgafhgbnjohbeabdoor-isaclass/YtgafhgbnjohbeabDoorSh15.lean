/- One operation: where the checker takes it and the shadow's runs, the machine's does the same. -/
import Derived.Test.YtgafhgbnjohbeabDoorSh14
set_option linter.unusedVariables false
set_option linter.unusedSimpArgs false
namespace Go.Sh
open Go.RowKit
theorem fillV_len : ∀ {ps : List (Nat × Nat × V)} {cs r : List V}, fillV cs ps = some r → r.length = cs.length
  | [], cs, r, h => by
    simp only [fillV, Option.some.injEq] at h
    rw [h]
  | (o, s, v) :: ps, cs, r, h => by
    simp only [fillV] at h
    split at h
    · rename_i hc
      rw [fillV_len h, lay_len (by omega)]
    · cases h
section
variable {P : Program} {Pr : Prog} {κ : K} {st st' : St} {o : Oper} {a : Act} {next : Act → World → Prop} {Q : Exit → Act → World → Prop} {x : V}

theorem run_len_arr {w : World} {t : TypeId} {n : Nat} (h : (match P.underlying t with
      | some (.array m _) => m == n
      | some (.pointer u) => (match P.underlying u with | some (.array m _) => m == n | _ => false)
      | _ => false) = true) (ty : TypeId) (v : Value) : (Builtin.len_ #[t] ty #[v]).run P w = .ok (goInt n) w := by
  split at h
  · rename_i m e hu
    have : m = n := by simpa using h
    subst this
    cases v <;> simp [Builtin.len_, run_underlying hu]
  · rename_i u hu
    split at h
    · rename_i m e hu'
      have : m = n := by simpa using h
      subst this
      cases v <;> simp [Builtin.len_, run_underlying hu, run_underlying hu']
    · cases h
  · cases h
theorem minmax_rep {lt : Int → Int → Bool} {x y z : V} (h : minV lt x y = some z) {vx vy : Value} (hx : Rep κ x vx) (hy : Rep κ y vy) : ∃ k p q, vx = .int k p ∧ vy = .int k q ∧ Rep κ z (.int k (if lt q p then q else p)) := by
  unfold minV at h
  split at h
  · split at h
    · rename_i k p k' q hk
      subst hk
      simp only [Option.some.injEq] at h
      subst h
      rw [rep_i] at hx hy
      exact ⟨k, p, q, hx, hy, rep_i.2 rfl⟩
    · cases h
  · cases h
theorem op_sound {call : CallF} (hcall : CallOk P Pr κ.L call) (hi : Inv Pr κ st) {e : Env} (hE : ERel κ e a) {s : SOp} (hok : okOp P κ.L o.op s = true) (h : opS Pr call e st s = some (x, st')) (hn : Then Pr κ st' x o a next) : o.wp P a κ.w next Q := by
  obtain ⟨dst, op, ty, pos, after, guard⟩ := o
  simp only at hok
  have val : ∀ {z : V} {u : Operand} {y : Opd}, okO κ.L u y = true → y.ev Pr e = some z → Rep κ z (a.eval u) := fun h1 h2 => opd_sound hi hE h1 h2
  cases s <;> simp only [okOp] at hok <;> simp only [opS] at h
  case mov y =>
    obtain ⟨h1, rfl⟩ := pureR_st h
    split at hok
    · unfold Oper.wp; exact hn κ _ (K.le.refl _) hi (val hok h1)
    · unfold Oper.wp; exact hn κ _ (K.le.refl _) hi (val hok h1)
    · cases hok
  case tok size y =>
    obtain ⟨v, hv, h⟩ := bind1_some h
    split at h
    case h_2 => cases h
    simp only [Option.some.injEq, Prod.mk.injEq] at h
    obtain ⟨rfl, rfl⟩ := h
    obtain ⟨k1, k2⟩ := hi.tip size
    have key : ∀ u, okO κ.L u y = true → next (a.put dst (a.eval u)) κ.w := fun u hu => by
      have hr := val hu hv
      have hr : RepD _ _ _ _ := hr
      simp only [RepD] at hr
      obtain ⟨A, cap, hv', _, d2, d3, _⟩ := hr
      have hA : A = none := by cases A <;> simp at d2; rfl
      subst hA
      have := d3 rfl
      subst this
      rw [hv']
      exact hn (κ.tip size) _ k1 k2 (tip_rep hi size)
    split at hok
    · unfold Oper.wp; exact key _ hok
    · unfold Oper.wp; exact key _ hok
    · cases hok
  case pick c y z =>
    obtain ⟨vc, hc, h⟩ := bind1_some h
    split at h
    case h_2 => cases h
    rename_i b
    obtain ⟨vy, hy, h⟩ := bind1_some h
    obtain ⟨vz, hz, h⟩ := bind1_some h
    simp only [Option.some.injEq, Prod.mk.injEq] at h
    obtain ⟨rfl, rfl⟩ := h
    split at hok
    case h_2 => cases hok
    rename_i c' a' b'
    simp only [Bool.and_eq_true] at hok
    have rc := val hok.1.1 hc
    have ry := val hok.1.2 hy
    have rz := val hok.2 hz
    rw [rep_b] at rc
    refine wp_mem' (s := do pure (if ← asBool (a.eval c') then a.eval a' else a.eval b')) (by simp [execOp, rc, asBool]) (Mem.pure hi ?_) hn
    refine ⟨_, by simp [rc, asBool]; rfl, ?_⟩
    cases b
    · simpa using rz
    · simpa using ry
  case bin op' y z =>
    obtain ⟨vy, hy, h⟩ := bind1_some h
    obtain ⟨vz, hz, h⟩ := bind1_some h
    obtain ⟨h1, rfl⟩ := pureR_st h
    split at hok
    case h_2 => cases hok
    simp only [Bool.and_eq_true, decide_eq_true_eq] at hok
    obtain ⟨⟨rfl, o1⟩, o2⟩ := hok
    exact wp_mem rfl (Mem.pure hi (bin_sound h1 (val o1 hy) (val o2 hz))) hn
  case eqv neg ks y z =>
    obtain ⟨vy, hy, h⟩ := bind1_some h
    obtain ⟨vz, hz, h⟩ := bind1_some h
    obtain ⟨h1, rfl⟩ := pureR_st h
    simp only [Option.map_eq_some_iff] at h1
    obtain ⟨b, h1, rfl⟩ := h1
    split at hok
    case h_2 => cases hok
    simp only [Bool.and_eq_true, decide_eq_true_eq] at hok
    obtain ⟨⟨⟨rfl, o0⟩, o1⟩, o2⟩ := hok
    exact wp_mem rfl (Mem.pure hi ⟨_, eqv_sound o0 h1 (val o1 hy) (val o2 hz), rep_b.2 rfl⟩) hn
  case un op' y =>
    obtain ⟨vy, hy, h⟩ := bind1_some h
    obtain ⟨h1, rfl⟩ := pureR_st h
    split at hok
    case h_2 => cases hok
    simp only [Bool.and_eq_true, decide_eq_true_eq] at hok
    obtain ⟨rfl, o1⟩ := hok
    exact wp_mem rfl (Mem.pure hi (un_sound h1 (val o1 hy))) hn
  case conv k y =>
    obtain ⟨vy, hy, h⟩ := bind1_some h
    obtain ⟨h1, rfl⟩ := pureR_st h
    split at hok
    case h_2 => cases hok
    simp only [Bool.and_eq_true] at hok
    exact wp_mem rfl (Mem.pure hi (conv_sound hok.1.1 hok.1.2 h1 (val hok.2 hy))) hn
  case s2b y =>
    obtain ⟨vy, hy, h⟩ := bind1_some h
    split at h
    case h_2 => cases h
    simp only [Option.some.injEq, Prod.mk.injEq] at h
    obtain ⟨rfl, rfl⟩ := h
    split at hok
    case h_2 => cases hok
    simp only [Bool.and_eq_true] at hok
    obtain ⟨el, hu, he⟩ := elemOk_spec hok.1.2
    exact wp_mem rfl (s2b_mem hi hok.1.1 hu he (val hok.2 hy)) hn
  case b2s y =>
    obtain ⟨vy, hy, h⟩ := bind1_some h
    obtain ⟨h1, rfl⟩ := pureR_st h
    split at hok
    case h_2 => cases hok
    simp only [Bool.and_eq_true] at hok
    obtain ⟨el, hu, he⟩ := elemOk_spec hok.1.2
    exact wp_mem rfl (b2s_mem hi hu he hok.1.1 h1 (val hok.2 hy)) hn
  case build z ps =>
    split at h
    case h_2 => cases h
    rename_i vs hvs
    obtain ⟨h1, rfl⟩ := pureR_st h
    simp only [Option.map_eq_some_iff] at h1
    obtain ⟨zs, hz, rfl⟩ := h1
    split at hok
    case h_2 => cases hok
    simp only [Bool.and_eq_true] at hok
    obtain ⟨o1, o2⟩ := hok
    split at o2
    case h_2 => cases o2
    rename_i place hp
    exact wp_mem rfl (Mem.pure hi (build_sound o1 hp o2 hi hE hvs hz)) hn
  case lits n z ps =>
    split at h
    case h_2 => cases h
    rename_i vs hvs
    obtain ⟨h1, rfl⟩ := pureR_st h
    split at h1
    case h_2 => cases h1
    rename_i cs hcs
    simp only [Option.map_eq_some_iff] at h1
    obtain ⟨ds, hds, rfl⟩ := h1
    split at hok
    case h_2 => cases hok
    simp only [Bool.and_eq_true, decide_eq_true_eq] at hok
    obtain ⟨⟨⟨rfl, o1⟩, o2⟩, o3⟩ := hok
    obtain ⟨el, hu, hz⟩ := elemOk_spec o1
    obtain ⟨arr, hr, ha⟩ := lits_sound (w := κ.w) hu hz o2 o3 hi hE hvs hcs
    refine wp_mem rfl (slNew_mem hi (Nat.le_refl _) hds (k := arr.size) ?_ hr) hn
    rw [List.take_of_length_le (by simp)]
    exact ha
  case litsO n z ps =>
    split at h
    case h_2 => cases h
    rename_i vs hvs
    split at h
    case h_2 => cases h
    rename_i cs hcs
    split at h
    case h_2 => cases h
    rename_i ds hds
    simp only [Option.some.injEq, Prod.mk.injEq] at h
    obtain ⟨rfl, rfl⟩ := h
    split at hok
    case h_2 => cases hok
    simp only [Bool.and_eq_true, decide_eq_true_eq] at hok
    obtain ⟨⟨⟨⟨rfl, o1⟩, o2⟩, o4⟩, o3⟩ := hok
    obtain ⟨el, hu, hz⟩ := elemOk_spec o1
    obtain ⟨arr, hr, ha⟩ := lits_sound (w := κ.w) hu hz o2 o3 hi hE hvs hcs
    have hfl := fillV_len hcs
    refine wp_mem rfl (ownNew_mem hi (toDs_rep hds ha) ?_ (by simp only [maxLen]; omega) hr) hn
    have := ha.length
    rw [hfl] at this
    simp only [ofDs, List.length_map, reps_len, Array.length_toList] at this
    exact this.symm
  case litsR n z ps =>
    split at h
    case h_2 => cases h
    rename_i vs hvs
    split at h
    case h_2 => cases h
    rename_i cs hcs
    simp only [Option.some.injEq, Prod.mk.injEq] at h
    obtain ⟨rfl, rfl⟩ := h
    split at hok
    case h_2 => cases hok
    simp only [Bool.and_eq_true, decide_eq_true_eq] at hok
    obtain ⟨⟨⟨rfl, o1⟩, o2⟩, o3⟩ := hok
    obtain ⟨el, hu, hz⟩ := elemOk_spec o1
    obtain ⟨arr, hr, ha⟩ := lits_sound (w := κ.w) hu hz o2 o3 hi hE hvs hcs
    exact wp_mem rfl (slRef_mem hi (Nat.le_refl _) ha hr) hn
  case box y =>
    obtain ⟨vy, hy, h⟩ := bind1_some h
    split at h
    case isFalse => cases h
    rename_i h1
    simp only [Option.some.injEq, Prod.mk.injEq] at h
    obtain ⟨rfl, rfl⟩ := h
    split at hok
    case h_2 => cases hok
    exact wp_mem rfl (box_mem hi h1 (val hok hy)) hn
  case boxI y =>
    obtain ⟨vy, hy, h⟩ := bind1_some h
    split at h
    case isFalse => cases h
    rename_i h1
    obtain ⟨h2, rfl⟩ := pureR_st h
    simp only [Option.map_eq_some_iff] at h2
    obtain ⟨ds, hds, rfl⟩ := h2
    split at hok
    case h_2 => cases hok
    exact wp_mem rfl (boxI_mem hi h1 hds (val hok hy)) hn
  case alloc z =>
    simp only [Option.some.injEq, Prod.mk.injEq] at h
    obtain ⟨rfl, rfl⟩ := h
    split at hok
    case h_2 => cases hok
    exact wp_mem rfl (alloc_mem hi hok) hn
  case load size agg p =>
    obtain ⟨vp, hp, h⟩ := bind1_some h
    obtain ⟨h1, rfl⟩ := pureR_st h
    split at hok
    case h_2 => cases hok
    simp only [Bool.and_eq_true] at hok
    exact wp_mem rfl (Mem.pure1 hi (load_sound hi hok.1.1 hok.1.2 h1 (val hok.2 hp))) hn
  case store size p y =>
    obtain ⟨vp, hp, h⟩ := bind1_some h
    obtain ⟨vy, hy, h⟩ := bind1_some h
    obtain ⟨h1, rfl⟩ := stR_st h
    split at hok
    case h_2 => cases hok
    simp only [Bool.and_eq_true] at hok
    exact wp_skip' rfl (store_mem hi hok.1.1 h1 (val hok.1.2 hp) (val hok.2 hy)) hn
  case faddr off p =>
    obtain ⟨vp, hp, h⟩ := bind1_some h
    obtain ⟨h1, rfl⟩ := pureR_st h
    split at hok
    case h_2 => cases hok
    simp only [Bool.and_eq_true] at hok
    obtain ⟨o1, o2⟩ := hok
    split at o1
    case h_2 => cases o1
    rename_i fd hfd
    exact wp_mem rfl (Mem.pure hi (faddr_sound hfd o1 h1 (val o2 hp))) hn
  case field off size agg y =>
    obtain ⟨vy, hy, h⟩ := bind1_some h
    obtain ⟨h1, rfl⟩ := pureR_st h
    split at hok
    case h_2 => cases hok
    simp only [Bool.and_eq_true] at hok
    obtain ⟨o1, o2⟩ := hok
    split at o1
    case h_2 => cases o1
    rename_i fd hfd
    simp only [Bool.and_eq_true] at o1
    exact wp_mem rfl (Mem.pure1 hi (field_sound hfd o1.1 o1.2 h1 (val o2 hy))) hn
  case iaddr size y i =>
    obtain ⟨vy, hy, h⟩ := bind1_some h
    obtain ⟨vi, hvi, h⟩ := bind1_some h
    obtain ⟨h1, rfl⟩ := pureR_st h
    split at hok
    case h_2 => cases hok
    simp only [Bool.and_eq_true] at hok
    exact wp_mem rfl (Mem.pure hi (iaddr_sound hok.1.1 h1 (val hok.1.2 hy) (val hok.2 hvi))) hn
  case iaddrA len size y i =>
    obtain ⟨vy, hy, h⟩ := bind1_some h
    obtain ⟨vi, hvi, h⟩ := bind1_some h
    obtain ⟨h1, rfl⟩ := pureR_st h
    split at hok
    case h_2 => cases hok
    simp only [Bool.and_eq_true] at hok
    exact wp_mem rfl (Mem.pure hi (iaddrA_sound hok.1.1 h1 (val hok.1.2 hy) (val hok.2 hvi))) hn
  case idx len size agg y i =>
    obtain ⟨vy, hy, h⟩ := bind1_some h
    obtain ⟨vi, hvi, h⟩ := bind1_some h
    obtain ⟨h1, rfl⟩ := pureR_st h
    split at hok
    case h_2 => cases hok
    simp only [Bool.and_eq_true] at hok
    obtain ⟨⟨o1, o2⟩, o3⟩ := hok
    split at o1
    case h_2 => cases o1
    rename_i n el hu
    simp only [Bool.and_eq_true, beq_iff_eq] at o1
    obtain ⟨⟨rfl, o4⟩, o5⟩ := o1
    exact wp_mem rfl (Mem.pure1 hi (idx_sound hu o4 o5 h1 (val o2 hy) (val o3 hvi))) hn
  case idxS y i =>
    obtain ⟨vy, hy, h⟩ := bind1_some h
    obtain ⟨vi, hvi, h⟩ := bind1_some h
    obtain ⟨h1, rfl⟩ := pureR_st h
    split at hok
    case h_2 => cases hok
    simp only [Bool.and_eq_true] at hok
    exact wp_mem rfl (Mem.pure hi (idxS_sound hok.1.1 h1 (val hok.1.2 hy) (val hok.2 hvi))) hn
  case slc size y lo hi' mx =>
    obtain ⟨vy, hy, h⟩ := bind1_some h
    split at h
    case h_2 => cases h
    rename_i l1 h1' m1 e1 e2 e3
    obtain ⟨h1, rfl⟩ := pureR_st h
    split at hok
    case h_2 => cases hok
    simp only [Bool.and_eq_true, Bool.or_eq_true, Bool.not_eq_true'] at hok
    obtain ⟨⟨⟨⟨⟨o1, o2⟩, o3⟩, o4⟩, o5⟩, o6⟩ := hok
    refine wp_mem rfl (Mem.pure hi (slc_sound o1 h1 (val o2 hy) (opo_sound hi hE o3 e1) (opo_sound hi hE o4 e2) (opo_sound hi hE o5 e3) ?_)) hn
    rw [evo_some e3, evo_some e2]
    intro hm
    rcases o6 with o6 | o6
    · rw [hm] at o6; cases o6
    · exact o6
  case slcS y lo hi' =>
    obtain ⟨vy, hy, h⟩ := bind1_some h
    split at h
    case h_2 => cases h
    rename_i l1 h1' e1 e2
    obtain ⟨h1, rfl⟩ := pureR_st h
    split at hok
    case h_2 => cases hok
    rename_i t y' l' h' m'
    simp only [Bool.and_eq_true, Bool.not_eq_true', Option.isSome_eq_false_iff, Option.isNone_iff_eq_none] at hok
    obtain ⟨⟨⟨⟨o1, o2⟩, o3⟩, o4⟩, o5⟩ := hok
    subst o5
    exact wp_mem rfl (Mem.pure hi (slcS_sound o1 h1 (val o2 hy) (opo_sound hi hE o3 e1) (opo_sound hi hE o4 e2))) hn
  case slcA len size y lo hi' mx =>
    obtain ⟨vy, hy, h⟩ := bind1_some h
    split at h
    case h_2 => cases h
    rename_i l1 h1' m1 e1 e2 e3
    obtain ⟨h1, rfl⟩ := pureR_st h
    split at hok
    case h_2 => cases hok
    rw [Bool.and_eq_true, Bool.and_eq_true, Bool.and_eq_true, Bool.and_eq_true, Bool.and_eq_true] at hok
    obtain ⟨⟨⟨⟨⟨o1, o2⟩, o3⟩, o4⟩, o5⟩, o6⟩ := hok
    refine wp_mem rfl (Mem.pure hi (slcA_sound o1 h1 (val o2 hy) (opo_sound hi hE o3 e1) (opo_sound hi hE o4 e2) (opo_sound hi hE o5 e3) ?_)) hn
    rw [evo_some e3, evo_some e2]
    intro hm
    rw [hm] at o6
    simpa using o6
  case mkR bytes z l c =>
    obtain ⟨vl, hl, h⟩ := bind1_some h
    obtain ⟨vc, hc, h⟩ := bind1_some h
    split at h
    case h_2 => cases h
    rename_i n m h1 h2
    split at h
    case isFalse => cases h
    rename_i hnm
    simp only [Option.some.injEq, Prod.mk.injEq] at h
    obtain ⟨rfl, rfl⟩ := h
    split at hok
    case h_2 => cases hok
    simp only [Bool.and_eq_true] at hok
    obtain ⟨el, hu, hz⟩ := elemOk_spec hok.1.1
    simp only [Bool.and_eq_true] at hz
    exact wp_mem rfl (mkR_mem hi hu hz.1 hz.2 hnm h1 h2 (val hok.1.2 hl) (val hok.2 hc)) hn
  case mkD bytes z l c =>
    obtain ⟨vl, hl, h⟩ := bind1_some h
    obtain ⟨vc, hc, h⟩ := bind1_some h
    split at h
    case h_2 => cases h
    rename_i n m h1 h2
    split at h
    case isFalse => cases h
    rename_i hnm
    simp only [Option.some.injEq, Prod.mk.injEq] at h
    obtain ⟨rfl, rfl⟩ := h
    split at hok
    case h_2 => cases hok
    simp only [Bool.and_eq_true] at hok
    obtain ⟨el, hu, hz⟩ := elemOk_spec hok.1.1
    simp only [Bool.and_eq_true] at hz
    exact wp_mem rfl (mkD_mem hi hu hz.1 hz.2 hnm h1 h2 (val hok.1.2 hl) (val hok.2 hc)) hn
  case mkO bytes size z l c =>
    obtain ⟨vl, hl, h⟩ := bind1_some h
    obtain ⟨vc, hc, h⟩ := bind1_some h
    split at h
    case h_2 => cases h
    rename_i n m h1 h2
    split at h
    case isFalse => cases h
    rename_i hnm
    simp only [Option.some.injEq, Prod.mk.injEq] at h
    obtain ⟨rfl, rfl⟩ := h
    split at hok
    case h_2 => cases hok
    simp only [Bool.and_eq_true] at hok
    obtain ⟨el, hu, hz⟩ := elemOk_spec hok.1.1
    simp only [Bool.and_eq_true] at hz
    have := mkO_mem (P := P) hi hu hz.1 hz.2 hnm.1 h1 h2 (val hok.1.2 hl) (val hok.2 hc)
    rw [hnm.2] at this
    exact wp_mem rfl this hn
  case len str y =>
    obtain ⟨vy, hy, h⟩ := bind1_some h
    obtain ⟨h1, rfl⟩ := pureR_st h
    simp only [Option.map_eq_some_iff] at h1
    obtain ⟨n, h1, rfl⟩ := h1
    split at hok
    case h_2 => cases hok
    rename_i a' t
    simp only [Bool.and_eq_true] at hok
    obtain ⟨o1, o2⟩ := hok
    refine wp_mem' (s := Builtin.len_ #[t] ty #[a.eval a']) (by simp [execOp, resolve, invoke, builtin]) (Mem.pure hi ⟨_, ?_, rep_i.2 rfl⟩) hn
    cases str with
    | true => exact lenS_sound (by simpa using o1) (by simpa using h1) (val o2 hy) ty
    | false =>
      obtain ⟨el, hu, _⟩ := elemOk_spec (by simpa using o1)
      exact len_sound hu (by simpa using h1) (val o2 hy) ty
  case lenA n =>
    simp only [Option.some.injEq, Prod.mk.injEq] at h
    obtain ⟨rfl, rfl⟩ := h
    split at hok
    case h_2 => cases hok
    rename_i a' t
    exact wp_mem' (s := Builtin.len_ #[t] ty #[a.eval a']) (by simp [execOp, resolve, invoke, builtin]) (Mem.pure hi ⟨_, run_len_arr hok ty _, rep_i.2 rfl⟩) hn
  case appR => cases h
  case app size bytes y z =>
    obtain ⟨vy, hy, h⟩ := bind1_some h
    obtain ⟨vz, hz, h⟩ := bind1_some h
    split at hok
    case h_2 => cases hok
    rename_i a' b' t u
    simp only [Bool.and_eq_true] at hok
    obtain ⟨⟨⟨o1, o2⟩, o3⟩, o4⟩ := hok
    obtain ⟨el, hu, he⟩ := elemOk_spec o1
    simp only [Bool.and_eq_true] at he
    have hxt : ∃ d, P.underlying u = some d ∧ ∀ k, d ≠ .int k := by
      unfold appSrc at o2
      split at o2
      · rename_i hq; exact ⟨_, hq, by simp⟩
      · rename_i hq; exact ⟨_, hq, by simp⟩
      · cases o2
    exact wp_mem' (s := Builtin.append_ #[t, u] ty #[a.eval a', a.eval b']) (by simp [execOp, resolve, invoke, builtin]) (app_mem hi hu hxt he.1.1 he.1.2 he.2 h (val o3 hy) (val o4 hz)) hn
  case cpy size y z =>
    obtain ⟨vy, hy, h⟩ := bind1_some h
    obtain ⟨vz, hz, h⟩ := bind1_some h
    split at hok
    case h_2 => cases hok
    rename_i a' b' t u
    simp only [Bool.and_eq_true] at hok
    obtain ⟨el, hu, he⟩ := elemOk_spec hok.1.1
    exact wp_mem' (s := Builtin.copy_ #[t, u] ty #[a.eval a', a.eval b']) (by simp [execOp, resolve, invoke, builtin]) (cpy_mem hi hu he h (val hok.1.2 hy) (val hok.2 hz)) hn
  case mkI tag agg y =>
    obtain ⟨vy, hy, h⟩ := bind1_some h
    obtain ⟨h1, rfl⟩ := pureR_st h
    split at hok
    case h_2 => cases hok
    simp only [Bool.and_eq_true, decide_eq_true_eq] at hok
    exact wp_mem rfl (Mem.pure hi (mkI_sound hok.1.1 hok.1.2 h1 (val hok.2 hy))) hn
  case assertT tag others ok z za y =>
    obtain ⟨vy, hy, h⟩ := bind1_some h
    obtain ⟨h1, rfl⟩ := pureR_st h
    split at hok
    case h_2 => cases hok
    rename_i a' xt t ok'
    rw [Bool.and_eq_true, Bool.and_eq_true, Bool.and_eq_true, Bool.and_eq_true, Bool.and_eq_true] at hok
    obtain ⟨⟨⟨⟨⟨o1, o2⟩, o3⟩, o4⟩, o5⟩, o6⟩ := hok
    have : ok' = ok := by simpa using o3
    subst this
    exact wp_mem rfl (Mem.pure hi (assert_sound (of_decide_eq_true o1) o2 o4 o5 h1 (val o6 hy))) hn
  case extract i y =>
    obtain ⟨vy, hy, h⟩ := bind1_some h
    split at h
    case h_2 => cases h
    obtain ⟨h1, rfl⟩ := pureR_st h
    split at hok
    case h_2 => cases hok
    simp only [Bool.and_eq_true, beq_iff_eq] at hok
    obtain ⟨rfl, o1⟩ := hok
    exact wp_mem rfl (Mem.pure hi (extract_sound h1 (val o1 hy))) hn
  case nilChk y =>
    obtain ⟨vy, hy, h⟩ := bind1_some h
    split at hok
    case h_2 => cases hok
    rename_i a'
    have hr := val hok hy
    have key : ∀ v, a.eval a' = v → (execOp a.eval { dst := dst, op := Op.nilCheck a', type := ty, pos := pos, after := after, guard := guard } = pure (.value v)) → Rep κ x v → st' = st → Oper.wp P { dst := dst, op := Op.nilCheck a', type := ty, pos := pos, after := after, guard := guard } a κ.w next Q := by
      intro v hv he hx hst
      subst hst
      unfold Oper.wp
      rw [he]
      exact hn κ v (K.le.refl _) hi hx
    split at h
    · simp only [Option.some.injEq, Prod.mk.injEq] at h
      obtain ⟨rfl, rfl⟩ := h
      obtain ⟨b, h1, h2⟩ := hr
      exact key _ h2 (by simp [execOp, h2]) ⟨b, h1, rfl⟩ rfl
    · simp only [Option.some.injEq, Prod.mk.injEq] at h
      obtain ⟨rfl, rfl⟩ := h
      obtain ⟨A, h1, h2⟩ := hr
      exact key _ h1 (by simp [execOp, h1]) ⟨A, rfl, h2⟩ rfl
    · simp only [Option.some.injEq, Prod.mk.injEq] at h
      obtain ⟨rfl, rfl⟩ := h
      have hr' := hr
      have hr : RepD _ _ _ _ := hr
      simp only [RepD] at hr
      obtain ⟨l, h1, h2⟩ := hr
      exact key _ h1 (by simp [execOp, h1]) (by rw [← h1]; exact hr') rfl
    · cases h
  case call f args =>
    split at h
    case h_2 => cases h
    rename_i vs hvs
    split at hok
    case h_2 => cases hok
    rename_i g as at'
    simp only [Bool.and_eq_true, beq_iff_eq] at hok
    obtain ⟨⟨rfl, o1⟩, o2⟩ := hok
    refine wp_call hcall hi (opds_sound hi hE o2 hvs) h ?_ hn
    have harr : Array.map a.eval as = (List.map a.eval as.toList).toArray := by rw [← Array.toList_map, Array.toArray_toList]
    simp [execOp, resolve, Deferred.ofValue, Act.eval, invoke, okCall_run o1]
    exact harr
  case invoke table r args =>
    obtain ⟨vr, hr, h⟩ := bind1_some h
    split at h
    case h_2 => cases h
    rename_i tag agg ds
    split at h
    case h_2 => cases h
    rename_i f v vs hf hv hvs
    split at hok
    case h_2 => cases hok
    rename_i a' name as at'
    simp only [Bool.and_eq_true] at hok
    obtain ⟨⟨o1, o2⟩, o3⟩ := hok
    obtain ⟨m1, m2⟩ := okTable_spec o2 hf
    have hrr : RepD _ _ _ _ := val o1 hr
    simp only [RepD] at hrr
    obtain ⟨l, h1, h2, h3⟩ := hrr
    have hrecv := mkV_rep hv (ofDs_rep (RepA.all2.1 h3))
    refine wp_call hcall hi (args := v :: vs) (.cons (Rep.of1 hrecv) (opds_sound hi hE o3 hvs)) h ?_ hn
    have hpos : 0 < Made.depth := by decide
    obtain ⟨n, hn'⟩ : ∃ n, P.types.size + Made.depth = n + 1 := ⟨P.types.size + Made.depth - 1, by omega⟩
    have hext : ∀ (x : Value) (l : List Value), ((#[x] ++ l.toArray).extract 1 (#[x] ++ l.toArray).size) = l.toArray := fun x l => by simp
    have harr : Array.map a.eval as = (List.map a.eval as.toList).toArray := by rw [← Array.toList_map, Array.toArray_toList]
    simp [execOp, resolve, invoke, h1, callMethod, hn', run_method_plain m1, okCall_run m2, harr]
    exact List.take_of_length_le (by simp)
  case mx y z =>
    obtain ⟨vy, hy, h⟩ := bind1_some h
    obtain ⟨vz, hz, h⟩ := bind1_some h
    obtain ⟨h1, rfl⟩ := pureR_st h
    split at hok
    case h_2 => cases hok
    rename_i a' b' at'
    simp only [Bool.and_eq_true] at hok
    obtain ⟨k, p, q, e1, e2, e3⟩ := minmax_rep h1 (val hok.1 hy) (val hok.2 hz)
    refine wp_mem' (s := Builtin.max_ at' ty #[a.eval a', a.eval b']) (by simp [execOp, resolve, invoke, builtin]) (Mem.pure hi ⟨_, ?_, e3⟩) hn
    rw [e1, e2]
    simp [Builtin.max_, Builtin.max2]
  case mn y z =>
    obtain ⟨vy, hy, h⟩ := bind1_some h
    obtain ⟨vz, hz, h⟩ := bind1_some h
    obtain ⟨h1, rfl⟩ := pureR_st h
    split at hok
    case h_2 => cases hok
    rename_i a' b' at'
    simp only [Bool.and_eq_true] at hok
    obtain ⟨k, p, q, e1, e2, e3⟩ := minmax_rep h1 (val hok.1 hy) (val hok.2 hz)
    refine wp_mem' (s := Builtin.min_ at' ty #[a.eval a', a.eval b']) (by simp [execOp, resolve, invoke, builtin]) (Mem.pure hi ⟨_, ?_, e3⟩) hn
    rw [e1, e2]
    simp [Builtin.min_, Builtin.min2]
  all_goals cases hok
end
end Go.Sh
