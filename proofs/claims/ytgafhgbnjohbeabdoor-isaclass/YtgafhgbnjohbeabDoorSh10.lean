/- Interface values, tuples, strings and arrays cut; memory made and written. -/
import Derived.Test.YtgafhgbnjohbeabDoorSh9
set_option linter.unusedVariables false
set_option linter.unusedSimpArgs false
namespace Go.Sh
open Go.RowKit
section
variable {P : Program} {Pr : Prog} {κ : K} {st : St} {w : World}

/-! ### Interface values, tuples -/
def concIs (P : Program) (t : TypeId) (b : Bool) : Bool := match P.underlying t with
  | some (.interface _) => false
  | some (.struct _) => b
  | some (.array _ _) => b
  | some _ => !b
  | none => false
theorem mkI_sound {t : TypeId} {tag : Nat} {agg : Bool} (ht : κ.L.ty tag = t) {x z : V} (hc : concIs P t agg = true) (h : mkIV tag agg x = some z) {vx : Value} (hx : Rep κ x vx) :
    ∃ v, (Instr.makeInterface t vx).run P w = .ok v w ∧ Rep κ z v := by
  have hrun : (Instr.makeInterface t vx).run P w = .ok (.iface t vx) w := by
    unfold concIs at hc
    cases hu : P.underlying t with
    | none => rw [hu] at hc; cases hc
    | some d =>
      rw [hu] at hc
      cases d <;> first
        | (simp at hc; done)
        | simp [Instr.makeInterface, run_underlying hu]
  refine ⟨_, hrun, ?_⟩
  unfold mkIV at h
  split at h
  · split at h
    · simp only [Option.map_eq_some_iff] at h
      obtain ⟨ds, hds, rfl⟩ := h
      obtain ⟨l, rfl, ha⟩ := hx
      show RepD _ _ _ _
      simp only [RepD]
      exact ⟨l, by rw [ht]; rfl, by simp, RepA.all2.2 (toDs_rep hds ha)⟩
    · cases h
  · rename_i hna
    split at h
    · cases h
    simp only [Option.map_eq_some_iff] at h
    obtain ⟨d, hd, rfl⟩ := h
    have hC : RepC κ x vx := by
      cases x <;> simp only [toD] at hd <;> try (cases hd; done)
      · exact hx
      · exact hx
    show RepD _ _ _ _
    simp only [RepD]
    exact ⟨[vx], by rw [ht]; rfl, by simp, vx, [], rfl, toD_rep hd hC, rfl⟩
theorem rep1_b (κ : K) (b : Bool) : Rep1 κ (.d (.b b)) (.bool b) := Rep1.ofC (x := .d _) (show RepD _ _ _ _ from repD_b.2 rfl)
theorem extract_sound {i : Nat} {vs : List V} {z : V} (h : vs[i]? = some z) {vx : Value} (hx : Rep κ (.tup vs) vx) : ∃ v, (Instr.extract vx i).run P w = .ok v w ∧ Rep κ z v := by
  obtain ⟨l, rfl, ha⟩ := hx
  obtain ⟨v, hv, hr⟩ := ha.get h
  exact ⟨v, by simp [Instr.extract, hv], Rep.of1 hr⟩
theorem zeroV_rep {z : List D} {t : TypeId} {agg : Bool} (hz : zeroIs P t z = true) (hg : aggIs P t agg = true) (hv : ∀ v, (P.info? t).bind (·.zero) = some v → (match v with | .agg _ => agg | _ => !agg) = true) : ∃ v, (zeroValue t).run P w = .ok v w ∧ Rep1 κ (zeroV z agg) v := by
  obtain ⟨i, zv, h1, h2, h3, h4⟩ := zeroIs_spec hz
  refine ⟨zv, by simp [zeroValue, typeInfo, h1, h2], ?_⟩
  have hm := hv zv (by rw [h1]; exact h2)
  have ha := okDs_rep (L := κ.L) (I := κ.imm) h3
  unfold zeroV
  cases agg with
  | true =>
    simp only [if_true]
    cases zv <;> first
      | (simp at hm; done)
      | exact ⟨_, congrArg Value.agg (Array.toArray_toList).symm, by simpa [Value.cells] using ofDs_rep ha⟩
  | false =>
    simp only [Bool.false_eq_true, if_false]
    have hc : zv.cells = #[zv] := by cases zv <;> first | rfl | simp at hm
    rw [hc] at ha
    match z, ha with
    | [d], .cons h _ => exact Rep1.ofC (x := .d d) h
    | _ :: _ :: _, .cons _ h => cases h
def zeroOk (P : Program) (t : TypeId) (z : List D) (agg : Bool) : Bool := zeroIs P t z && aggIs P t agg && (match (P.info? t).bind (·.zero) with
  | some (.agg _) => agg
  | some _ => !agg
  | none => false)
theorem zero_sound {z : List D} {t : TypeId} {agg : Bool} (h : zeroOk P t z agg = true) : ∃ v, (zeroValue t).run P w = .ok v w ∧ Rep1 κ (zeroV z agg) v := by
  simp only [zeroOk, Bool.and_eq_true] at h
  refine zeroV_rep h.1.1 h.1.2 fun v hv => ?_
  rw [hv] at h
  have h2 := h.2
  cases v <;> exact h2
theorem assert_sound {t xt : TypeId} {tag : Nat} (ht : κ.L.ty tag = t) {others : List Nat} (hinj : (others.all fun a => decide (κ.L.ty a ≠ t)) = true) {ok : Bool} {z : List D} {za : Bool} (hz : zeroOk P t z za = true) (hni : (match P.underlying t with | some (.interface _) => false | some _ => true | none => false) = true)
    {x r : V} (h : assertV tag others ok (zeroV z za) x = some r) {vx : Value} (hx : Rep κ x vx) : ∃ v, (Instr.typeAssert vx xt t ok).run P w = .ok v w ∧ Rep κ r v := by
  obtain ⟨zv, hzr, hzv⟩ := zero_sound (κ := κ) (w := w) hz
  cases hu : P.underlying t with
  | none => rw [hu] at hni; cases hni
  | some d =>
    rw [hu] at hni
    have hfalse : Rep κ (.tup [zeroV z za, .d (.b false)]) (.tuple #[zv, .bool false]) := ⟨[zv, .bool false], rfl, .cons hzv (.cons (rep1_b κ _) .nil)⟩
    unfold assertV at h
    split at h
    · split at h
      · rename_i hok
        simp only [Option.some.injEq] at h
        subst h
        have hx : RepD _ _ _ _ := hx
        simp only [RepD] at hx
        subst hx
        refine ⟨_, ?_, hfalse⟩
        unfold Instr.typeAssert
        simp only [Sem.run_bind, run_underlying hu, Result.andThen_ok, hok]
        cases d <;> first
          | (simp at hni; done)
          | simp [hzr]
      · cases h
    · rename_i u agg ds
      have hx' : RepD _ _ _ _ := hx
      simp only [RepD] at hx'
      obtain ⟨l, rfl, h1, h2⟩ := hx'
      split at h
      · rename_i hut
        subst hut
        simp only [Option.map_eq_some_iff] at h
        obtain ⟨v, hv, rfl⟩ := h
        have ha := RepA.all2.1 h2
        have hr := mkV_rep hv (ofDs_rep ha)
        have hrun : (Instr.typeAssert (.iface (κ.L.ty u) (if agg then .agg l.toArray else l.headD undef)) xt t ok).run P w = .ok (if ok then .tuple #[if agg then .agg l.toArray else l.headD undef, .bool true] else if agg then .agg l.toArray else l.headD undef) w := by
          unfold Instr.typeAssert
          simp only [Sem.run_bind, run_underlying hu, Result.andThen_ok, ht]
          cases d <;> first
            | (simp at hni; done)
            | (cases ok <;> simp)
        refine ⟨_, hrun, ?_⟩
        cases ok with
        | true => exact ⟨[_, .bool true], rfl, .cons hr (.cons (rep1_b κ _) .nil)⟩
        | false => exact Rep.of1 hr
      · rename_i hut
        split at h
        · rename_i hok
          simp only [Bool.and_eq_true] at hok
          obtain ⟨hok, hcon⟩ := hok
          simp only [Option.some.injEq] at h
          subst h
          refine ⟨_, ?_, hfalse⟩
          have hne : ¬ (κ.L.ty u = t) := by
            have := List.all_eq_true.1 hinj u (by simpa using hcon)
            simpa using this
          unfold Instr.typeAssert
          simp only [Sem.run_bind, run_underlying hu, Result.andThen_ok, hok]
          cases d <;> first
            | (simp at hni; done)
            | simp [hzr, hne]
        · cases h
    · cases h

/-! ### Strings and arrays, cut -/
theorem extract_mk (l : List UInt8) (a h : Nat) : (⟨l.toArray⟩ : ByteArray).extract a h = ⟨((l.drop a).take (h - a)).toArray⟩ := by
  apply ByteArray.ext
  simp [List.extract_toArray, List.take_drop, ByteArray.data_extract]
theorem slcS_sound {t : TypeId} (ht : strIs P t = true) {x z : V} {lo hi : Option V} (h : slcSV x lo hi = some z) {vx : Value} {vl vh : Option Value} (hx : Rep κ x vx) (hl : ORep κ lo vl) (hh : ORep κ hi vh) :
    ∃ v, (Instr.sliceAt t vx vl vh none).run P w = .ok v w ∧ Rep κ z v := by
  have hu := strIs_spec ht
  unfold slcSV at h
  split at h
  · rename_i l
    simp only [Option.map_eq_some_iff] at h
    obtain ⟨⟨a, h', m⟩, hb, rfl⟩ := h
    rw [rep_s] at hx
    subst hx
    have hrun := bnds_sound (P := P) (w := w) (b := false) hb hl hh (vm := none) trivial (by simp)
    refine ⟨_, ?_, rep_s.2 rfl⟩
    dsimp only
    rw [← extract_mk]
    simp [Instr.sliceAt, Instr.slice, run_underlying hu, size_mk, hrun]
  · cases h
theorem slcA_sound {t : TypeId} {len size : Nat} (ht : (arrIs P t len size || (match P.underlying t with | some (.pointer a) => arrIs P a len size | _ => false)) = true) {x z : V} {lo hi mx : Option V} (h : slcAV len size x lo hi mx = some z) {vx : Value} {vl vh vm : Option Value} (hx : Rep κ x vx) (hl : ORep κ lo vl) (hh : ORep κ hi vh) (hm : ORep κ mx vm) (hmh : mx.isSome = true → hi.isSome = true) :
    ∃ v, (Instr.sliceAt t vx vl vh vm).run P w = .ok v w ∧ Rep κ z v := by
  have hrun : ∀ (A : Addr) (l h m : Nat), (Instr.sliceBounds false len len vl vh vm).run P w = .ok (l, h, m) w → (Instr.sliceAt t (.pointer (some A)) vl vh vm).run P w = .ok (.slice (some (if m = l then A else A.add (l * size))) (h - l) (m - l)) w := fun A l h m hb => by
    simp only [Bool.or_eq_true] at ht
    rcases ht with ht | ht
    · obtain ⟨e, hu, hs⟩ := arrIs_spec ht
      simp [Instr.sliceAt, run_underlying hu, Instr.sureAddr, hb, run_sizeOf hs]
    · split at ht
      · rename_i a hu
        obtain ⟨e, hua, hs⟩ := arrIs_spec ht
        simp [Instr.sliceAt, Instr.slice, run_underlying hu, run_underlying hua, asAddr, hb, run_sizeOf hs]
      · cases ht
  unfold slcAV at h
  split at h
  · simp only [Option.map_eq_some_iff] at h
    obtain ⟨⟨l, h', m⟩, hb, rfl⟩ := h
    obtain ⟨b, h1, rfl⟩ := hx
    have hle := bnds_le hb (Nat.le_refl _) hmh
    refine ⟨_, hrun _ _ _ _ (bnds_sound hb hl hh hm hmh), ?_⟩
    dsimp only
    by_cases hc : m = l
    · exact ⟨b, _, h1, by rw [if_pos hc], by omega, .inl (by omega)⟩
    · exact ⟨b, _, h1, by rw [if_neg hc, Addr.add_lit], by omega, .inr rfl⟩
  · split at h
    · cases h
    rename_i hnm
    simp only [Option.map_eq_some_iff] at h
    obtain ⟨⟨l, h', m⟩, hb, rfl⟩ := h
    obtain ⟨A, rfl, hA⟩ := hx
    have hle := bnds_le hb (Nat.le_refl _) (by simp)
    have hmx : mx = none := by cases mx <;> simp at hnm; rfl
    subst hmx
    refine ⟨_, hrun _ _ _ _ (bnds_sound hb hl hh hm (by simp)), ?_⟩
    dsimp only
    show RepD _ _ _ _
    simp only [RepD]
    refine ⟨_, _, rfl, by omega, rfl, by simp, ?_⟩
    rcases hA with rfl | ⟨b, o, rfl, hA⟩
    · exact .inl (by simp)
    · by_cases hc : m = l
      · left
        have : h' - l = 0 := by omega
        simp [this]
      · right
        exact ⟨b, _, by rw [if_neg hc, Addr.add_lit], (hA.drop _).take _⟩
  · cases h
end
end Go.Sh
