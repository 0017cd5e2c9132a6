/- Operations that read memory, and those on addresses, slices and parts. -/
import Derived.Test.YtgafhgbnjohbeabDoorSh5
import Derived.Laws.Strings
set_option linter.unusedVariables false
set_option linter.unusedSimpArgs false
namespace Go.Sh
open Go.RowKit

def fieldIs (P : Program) (s : TypeId) (f off : Nat) : Option Field := match P.underlying s with
  | some (.struct fs) => match fs[f]? with
    | some fd => if fd.offset = off then some fd else none
    | none => none
  | _ => none
def slIs (P : Program) (t : TypeId) (size : Nat) : Bool := match P.underlying t with
  | some (.slice e) => szIs P e size
  | _ => false
def arrIs (P : Program) (t : TypeId) (len size : Nat) : Bool := match P.underlying t with
  | some (.array n e) => n == len && szIs P e size
  | _ => false
def strIs (P : Program) (t : TypeId) : Bool := match P.underlying t with
  | some .string => true
  | _ => false
def intIs (P : Program) (t : TypeId) (k : IntKind) : Bool := match P.underlying t with
  | some (.int k') => k' == k
  | _ => false
section
variable {P : Program} {Pr : Prog} {κ : K} {st : St} {w : World}
theorem slIs_spec {t : TypeId} {n : Nat} (h : slIs P t n = true) : ∃ e, P.underlying t = some (.slice e) ∧ szIs P e n = true := by
  unfold slIs at h
  split at h
  · exact ⟨_, by assumption, h⟩
  · cases h
theorem arrIs_spec {t : TypeId} {len n : Nat} (h : arrIs P t len n = true) : ∃ e, P.underlying t = some (.array len e) ∧ szIs P e n = true := by
  unfold arrIs at h
  split at h
  · simp only [Bool.and_eq_true, beq_iff_eq] at h
    obtain ⟨rfl, h⟩ := h
    exact ⟨_, by assumption, h⟩
  · cases h
theorem strIs_spec {t : TypeId} (h : strIs P t = true) : P.underlying t = some .string := by
  unfold strIs at h
  split at h
  · assumption
  · cases h
theorem intIs_spec {t : TypeId} {k : IntKind} (h : intIs P t k = true) : P.underlying t = some (.int k) := by
  unfold intIs at h
  split at h
  · simp only [beq_iff_eq] at h
    subst h
    assumption
  · cases h
theorem fieldIs_spec {s : TypeId} {f off : Nat} {fd : Field} (h : fieldIs P s f off = some fd) : ∃ fs, P.underlying s = some (.struct fs) ∧ fs[f]? = some fd ∧ fd.offset = off := by
  unfold fieldIs at h
  split at h
  · rename_i fs hfs
    split at h
    · rename_i fd' hfd
      split at h
      · rename_i ho
        simp only [Option.some.injEq] at h
        subst h
        exact ⟨fs, hfs, hfd, ho⟩
      · cases h
    · cases h
  · cases h

/-! ### Loads -/
theorem run_loadVar_at {t : TypeId} {size : Nat} {agg : Bool} (hs : szIs P t size = true) (hg : aggIs P t agg = true) {b o : Nat} {l : List Value} (hl : l.length = size) (h1 : agg = false → size = 1)
    (hc : ∀ j x, l[j]? = some x → w.cell? ⟨b, o + j, none⟩ = some x) : (loadVar t ⟨b, o, none⟩).run P w = .ok (if agg then .agg l.toArray else l.headD undef) w := by
  unfold loadVar
  simp only [Sem.run_bind, run_isAgg hg, Result.andThen_ok]
  cases agg with
  | true =>
    have h2 := run_loadCells_list (P := P) w ⟨b, o, none⟩ l (fun j v hj => by rw [Addr.add_lit]; exact hc j v hj)
    simp only [if_true, Sem.run_bind, run_sizeOf hs, Result.andThen_ok]
    rw [← hl, h2]
    rfl
  | false =>
    have hone := h1 rfl
    subst hone
    match l, hl with
    | [x], _ =>
      have := hc 0 x rfl
      simp only [Nat.add_zero] at this
      simp [this]
theorem load_sound (hi : Inv Pr κ st) {t : TypeId} {size : Nat} {agg : Bool} (hs : szIs P t size = true) (hg : aggIs P t agg = true) {p z : V} (h : loadV size agg st p = some z) {vp : Value} (hp : Rep κ p vp) :
    ∃ v, (Instr.loadAt t vp).run P κ.w = .ok v κ.w ∧ Rep1 κ z v := by
  unfold loadV at h
  split at h
  · rename_i id off
    split at h
    · rename_i cs hrow
      split at h
      · rename_i hlen
        obtain ⟨b, h1, rfl⟩ := hp
        obtain ⟨b', arr, e, h2, h3, h4, h5⟩ := hi.rows id cs hrow
        obtain rfl : b = b' := by rw [h1] at h2; exact Option.some.inj h2
        have ha := (h4.drop off).take size
        have hz := mkV_rep h ha
        refine ⟨_, ?_, hz⟩
        have hlen4 := h4.length
        show (Instr.loadAt t (.pointer (some ⟨b, off, none⟩))).run P κ.w = _
        simp only [Instr.loadAt, Instr.sureAddr, Sem.run_bind, Sem.run_pure, Result.andThen_ok]
        refine run_loadVar_at hs hg ?_ ?_ ?_
        · simp only [List.length_take, List.length_drop]; omega
        · intro hf
          have := mkV_len h hf
          simp only [List.length_take, List.length_drop] at this
          omega
        · intro j x hj
          obtain ⟨_, hj⟩ := take_get hj
          rw [List.getElem?_drop] at hj
          rw [cell_of_row κ.w b (off + j) arr e (0, 0) h3]
          simpa using hj
      · cases h
    · cases h
  · rename_i cells
    split at h
    · rename_i hlen
      obtain ⟨A, rfl, hl⟩ := hp
      obtain ⟨b, o, rfl, hl2⟩ : ∃ b o, A = ⟨b, o, none⟩ ∧ RepL κ.L κ.imm cells b o := hl.resolve_left (by rintro rfl; simp at hlen; omega)
      obtain ⟨l, ha, hc⟩ := (hl2.take size).vals
      have hz := mkV_rep h (ofDs_rep ha)
      refine ⟨_, ?_, hz⟩
      have := ha.length
      simp only [List.length_take] at this
      show (Instr.loadAt t (.pointer (some ⟨b, o, none⟩))).run P κ.w = _
      simp only [Instr.loadAt, Instr.sureAddr, Sem.run_bind, Sem.run_pure, Result.andThen_ok]
      refine run_loadVar_at hs hg (by omega) ?_ (fun j x hj => (hc j x hj).1)
      intro hf
      have := mkV_len h hf
      simp only [ofDs, List.length_map, List.length_take] at this
      omega
    · cases h
  · cases h

/-! ### Addresses -/
theorem faddr_sound {s : TypeId} {f off : Nat} {fd : Field} (hf : fieldIs P s f off = some fd) (hz : (match P.info? fd.type with | some i => i.size != 0 | none => false) = true) {p z : V} (h : faddrV off p = some z) {vp : Value} (hp : Rep κ p vp) :
    ∃ v, (Instr.fieldAt s vp f).run P w = .ok v w ∧ Rep κ z v := by
  obtain ⟨fs, h1, h2, rfl⟩ := fieldIs_spec hf
  cases hi : P.info? fd.type with
  | none => rw [hi] at hz; cases hz
  | some i =>
    rw [hi] at hz
    have hz' : i.size ≠ 0 := by simpa using hz
    have hrun : ∀ A, (Instr.fieldAt s (.pointer (some A)) f).run P w = .ok (.pointer (some (A.add fd.offset))) w := fun b => by
      simp [Instr.fieldAt, run_underlying h1, h2, Instr.sureAddr, fieldPlace, sizeOf, typeInfo, hi, hz']
    unfold faddrV at h
    split at h
    · simp only [Option.some.injEq] at h
      subst h
      obtain ⟨b, h1, rfl⟩ := hp
      exact ⟨_, hrun _, b, h1, by rw [Addr.add_lit]⟩
    · simp only [Option.some.injEq] at h
      subst h
      obtain ⟨A, rfl, hl⟩ := hp
      refine ⟨_, hrun A, _, rfl, ?_⟩
      rcases hl with rfl | ⟨b, o, rfl, hl⟩
      · exact .inl (by simp)
      · exact .inr ⟨b, _, Addr.add_lit _ _ _, hl.drop _⟩
    · cases h
theorem intV_rep {x : V} {n : Int} (h : intV x = some n) {v : Value} (hx : Rep κ x v) : ∃ k, v = .int k n := by
  unfold intV at h
  split at h
  · simp only [Option.some.injEq] at h
    subst h
    exact ⟨_, rep_i.1 hx⟩
  · cases h
theorem iaddr_sound {t : TypeId} {size : Nat} (ht : slIs P t size = true) {x i z : V} (h : iaddrV size x i = some z) {vx vi : Value} (hx : Rep κ x vx) (hi : Rep κ i vi) :
    ∃ v, (Instr.indexAt t vx vi).run P w = .ok v w ∧ Rep κ z v := by
  obtain ⟨e, hu, hsz⟩ := slIs_spec ht
  unfold iaddrV at h
  split at h
  · cases h
  rename_i n hn
  obtain ⟨k, rfl⟩ := intV_rep hn hi
  have hrun : ∀ (b o len cap : Nat), 0 ≤ n → n < len → (Instr.indexAt t (.slice (some ⟨b, o, none⟩) len cap) (.int k n)).run P w = .ok (.pointer (some ⟨b, o + n.toNat * size, none⟩)) w := fun b o len cap h0 h1 => by
    simp [Instr.indexAt, run_underlying hu, asIntOf, h0, h1, run_sizeOf hsz, Addr.add_lit]
  have hD : ∀ (len : Nat) nz cs, RepD κ.L κ.imm (.sl len nz cs) vx → 0 ≤ n → n < len → ∃ v, (Instr.indexAt t vx (.int k n)).run P w = .ok v w ∧ Rep κ (.ep (cs.drop (n.toNat * size))) v := by
    intro len nz cs hd h0 h1
    simp only [RepD] at hd
    obtain ⟨A, cap, rfl, h2, h3, h4, h5⟩ := hd
    rcases h5 with rfl | ⟨b, o, rfl, hl⟩
    · cases A with
      | none =>
        have := h4 rfl
        omega
      | some a =>
        simp only [List.drop_nil]
        exact ⟨.pointer (some (a.add (n.toNat * size))), by simp [Instr.indexAt, run_underlying hu, asIntOf, h0, h1, run_sizeOf hsz], _, rfl, .inl rfl⟩
    · exact ⟨_, hrun b o len cap h0 h1, _, rfl, .inr ⟨b, _, rfl, hl.drop _⟩⟩
  split at h
  · split at h
    · rename_i hb
      simp only [Option.some.injEq] at h
      subst h
      exact hD _ _ _ hx hb.1 hb.2
    · cases h
  · split at h
    · rename_i hb
      simp only [Option.some.injEq] at h
      subst h
      exact hD _ _ _ hx.1 hb.1 hb.2
    · cases h
  · split at h
    · rename_i hb
      simp only [Option.some.injEq] at h
      subst h
      obtain ⟨b, o, h1, rfl, hcap, ho⟩ := hx
      obtain rfl := ho.resolve_left (by omega)
      exact ⟨_, hrun b _ _ _ hb.1 hb.2, b, h1, rfl⟩
    · cases h
  · cases h
theorem iaddrA_sound {t : TypeId} {len size : Nat} (ht : arrIs P t len size = true) {p i z : V} (h : iaddrAV len size p i = some z) {vp vi : Value} (hp : Rep κ p vp) (hi : Rep κ i vi) :
    ∃ v, (Instr.indexAt t vp vi).run P w = .ok v w ∧ Rep κ z v := by
  obtain ⟨e, hu, hsz⟩ := arrIs_spec ht
  unfold iaddrAV at h
  split at h
  · cases h
  rename_i n hn
  obtain ⟨k, rfl⟩ := intV_rep hn hi
  split at h
  case isFalse => cases h
  rename_i hb
  have hrun : ∀ A, (Instr.indexAt t (.pointer (some A)) (.int k n)).run P w = .ok (.pointer (some (A.add (n.toNat * size)))) w := fun A => by
    simp [Instr.indexAt, run_underlying hu, asIntOf, hb.1, hb.2, run_sizeOf hsz, Instr.sureAddr]
  unfold faddrV at h
  split at h
  · simp only [Option.some.injEq] at h
    subst h
    obtain ⟨b, h1, rfl⟩ := hp
    exact ⟨_, hrun _, b, h1, by rw [Addr.add_lit]⟩
  · simp only [Option.some.injEq] at h
    subst h
    obtain ⟨A, rfl, hl⟩ := hp
    refine ⟨_, hrun A, _, rfl, ?_⟩
    rcases hl with rfl | ⟨b, o, rfl, hl⟩
    · exact .inl (by simp)
    · exact .inr ⟨b, _, Addr.add_lit _ _ _, hl.drop _⟩
  · cases h

/-! ### Parts of values -/
theorem field_sound {s : TypeId} {f off size : Nat} {agg : Bool} {fd : Field} (hf : fieldIs P s f off = some fd) (hs : szIs P fd.type size = true) (hg : aggIs P fd.type agg = true) {x z : V} (h : fieldV off size agg x = some z) {vx : Value} (hx : Rep κ x vx) :
    ∃ v, (Instr.field s vx f).run P w = .ok v w ∧ Rep1 κ z v := by
  obtain ⟨fs, h1, h2, rfl⟩ := fieldIs_spec hf
  unfold fieldV at h
  split at h
  · split at h
    · rename_i hlen
      obtain ⟨l, rfl, ha⟩ := hx
      obtain ⟨v, hv, hz⟩ := part_sound (w := w) hs hg ha hlen h
      exact ⟨v, by simp [Instr.field, run_underlying h1, h2, asAgg, hv], hz⟩
    · cases h
  · cases h
theorem idx_sound {t : TypeId} {len size : Nat} {agg : Bool} {e : TypeId} (ht : P.underlying t = some (.array len e)) (hs : szIs P e size = true) (hg : aggIs P e agg = true) {x i z : V} (h : idxV len size agg x i = some z) {vx vi : Value} (hx : Rep κ x vx) (hi : Rep κ i vi) :
    ∃ v, (Instr.index t vx vi).run P w = .ok v w ∧ Rep1 κ z v := by
  unfold idxV at h
  split at h
  · cases h
  rename_i n hn
  obtain ⟨k, rfl⟩ := intV_rep hn hi
  split at h
  case isFalse => cases h
  rename_i hb
  unfold fieldV at h
  split at h
  · split at h
    · rename_i hlen
      obtain ⟨l, rfl, ha⟩ := hx
      obtain ⟨v, hv, hz⟩ := part_sound (w := w) hs hg ha hlen h
      exact ⟨v, by simp [Instr.index, run_underlying ht, asIntOf, hb.1, hb.2, run_sizeOf hs, hv], hz⟩
    · cases h
  · cases h
theorem get_mk (l : List UInt8) (i : Nat) : (⟨l.toArray⟩ : ByteArray)[i]? = l[i]? := by
  by_cases h : i < l.length
  · rw [getElem?_pos (⟨l.toArray⟩ : ByteArray) i h, getElem?_pos l i h]
    rfl
  · rw [getElem?_neg (⟨l.toArray⟩ : ByteArray) i h, getElem?_neg l i h]
theorem idxS_sound {t : TypeId} (ht : strIs P t = true) {x i z : V} (h : idxSV x i = some z) {vx vi : Value} (hx : Rep κ x vx) (hi : Rep κ i vi) :
    ∃ v, (Instr.index t vx vi).run P w = .ok v w ∧ Rep κ z v := by
  have hu := strIs_spec ht
  unfold idxSV at h
  split at h
  · rename_i l n hn
    obtain ⟨k, rfl⟩ := intV_rep hn hi
    rw [rep_s] at hx
    subst hx
    split at h
    · rename_i h0
      simp only [Option.map_eq_some_iff] at h
      obtain ⟨b, hb, rfl⟩ := h
      exact ⟨_, by simp [Instr.index, run_underlying hu, asIntOf, h0, get_mk, hb], rep_i.2 rfl⟩
    · cases h
  · cases h
theorem lenS_sound {t : TypeId} (ht : strIs P t = true) {x : V} {n : Nat} (h : lenS x = some n) {vx : Value} (hx : Rep κ x vx) (ty : TypeId) : (Builtin.len_ #[t] ty #[vx]).run P w = .ok (goInt n) w := by
  unfold lenS at h
  split at h
  · simp only [Option.some.injEq] at h
    subst h
    rw [rep_s] at hx
    subst hx
    simp [Builtin.len_, run_underlying (strIs_spec ht), size_mk]
  · cases h
theorem len_sound {t e : TypeId} (he : P.underlying t = some (.slice e)) {x : V} {n : Nat} (h : lenV x = some n) {vx : Value} (hx : Rep κ x vx) (ty : TypeId) : (Builtin.len_ #[t] ty #[vx]).run P w = .ok (goInt n) w := by
  unfold lenV at h
  split at h
  · simp only [Option.some.injEq] at h
    subst h
    have hx : RepD κ.L κ.imm _ vx := hx
    simp only [RepD] at hx
    obtain ⟨A, cap, rfl, _⟩ := hx
    simp [Builtin.len_, run_underlying he]
  · simp only [Option.some.injEq] at h
    subst h
    have hx : RepD κ.L κ.imm _ vx := hx.1
    simp only [RepD] at hx
    obtain ⟨A, cap, rfl, _⟩ := hx
    simp [Builtin.len_, run_underlying he]
  · simp only [Option.some.injEq] at h
    subst h
    obtain ⟨b, o, _, rfl, _⟩ := hx
    simp [Builtin.len_, run_underlying he]
  · cases h
theorem conv_sound {src dst : TypeId} {k : IntKind} (hs : (P.underlying src).isSome = true) (hd : intIs P dst k = true) {x z : V} (h : convV k x = some z) {vx : Value} (hx : Rep κ x vx) :
    ∃ v, (convert src dst vx).run P w = .ok v w ∧ Rep κ z v := by
  unfold convV at h
  split at h
  · simp only [Option.some.injEq] at h
    subst h
    rw [rep_i] at hx
    subst hx
    obtain ⟨d, hu⟩ := Option.isSome_iff_exists.1 hs
    refine ⟨_, ?_, rep_i.2 rfl⟩
    unfold convert
    simp only [Sem.run_bind, run_underlying hu, run_underlying (intIs_spec hd), Result.andThen_ok]
    cases d <;> rfl
  · cases h
end
end Go.Sh
