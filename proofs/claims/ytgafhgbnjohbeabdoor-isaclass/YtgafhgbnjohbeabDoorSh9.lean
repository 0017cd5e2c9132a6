/- What is built; interface values; tuples; strings and arrays cut. -/
import Derived.Test.YtgafhgbnjohbeabDoorSh8
set_option linter.unusedVariables false
set_option linter.unusedSimpArgs false
namespace Go.Sh
open Go.RowKit
section
variable {P : Program} {Pr : Prog} {κ : K} {st : St} {w : World}

theorem Rep.cells {x : V} {v : Value} (h : Rep κ x v) (hx : x.ok1 = true) : All2 (RepC κ) x.cs v.cells.toList :=
  Rep1.cells (Rep.to1 h (by rintro vs rfl; cases hx)) (by rintro rfl; cases hx)
theorem foldl_lay (off : Nat) : ∀ (l : List Value) (k : Nat) (arr : Array Value), off + k + l.length ≤ arr.size →
    ((l.zipIdx k).foldl (fun cs p => cs.setIfInBounds (off + p.2) p.1) arr).toList = arr.toList.take (off + k) ++ l ++ arr.toList.drop (off + k + l.length)
  | [], k, arr, h => by simp
  | v :: l, k, arr, h => by
    simp only [List.length_cons] at h
    rw [List.zipIdx_cons, List.foldl_cons, foldl_lay off l (k + 1) _ (by simp; omega)]
    have e := list_seg_step arr.toList (off + k) v l (by simp; omega)
    simp only [Array.toList_setIfInBounds]
    rw [show off + (k + 1) = off + k + 1 by omega]
    rw [e]
    simp
def okParts (L : Link) (place : Nat → Option (Nat × Nat)) : List (Nat × Operand) → List (Nat × Nat × Opd) → Bool
  | [], [] => true
  | (i, x) :: r, (off, size, y) :: s => decide (place i = some (off, size)) && okO L x y && okParts L place r s
  | _, _ => false
theorem lay_len {α : Type} {cs xs : List α} {off : Nat} (h : off + xs.length ≤ cs.length) : (lay cs off xs).length = cs.length := by
  simp only [lay, List.length_append, List.length_take, List.length_drop]
  omega
theorem All2.lay {R : V → Value → Prop} {cs : List V} {l : List Value} (h : All2 R cs l) {xs : List V} {ys : List Value} (h' : All2 R xs ys) (off : Nat) : All2 R (lay cs off xs) (Sh.lay l off ys) := by
  unfold Sh.lay
  rw [h'.length]
  exact ((h.take _).append h').append (h.drop _)
theorem fill_sound {place : Nat → Option (Nat × Nat)} (hi : Inv Pr κ st) {e : Env} {a : Act} (hE : ERel κ e a) : ∀ {ps : List (Nat × Operand)} {qs : List (Nat × Nat × Opd)} {vs : List (Nat × Nat × V)} {cs zs : List V} {arr : Array Value},
    okParts κ.L place ps qs = true → partsV Pr e qs = some vs → fillV cs vs = some zs → All2 (RepC κ) cs arr.toList →
    ∃ arr', Instr.fill place arr (ps.map fun (i, x) => (i, a.eval x)) = some arr' ∧ All2 (RepC κ) zs arr'.toList
  | [], [], vs, cs, zs, arr, _, hv, hf, ha => by
    simp only [partsV, Option.some.injEq] at hv
    subst hv
    simp only [fillV, Option.some.injEq] at hf
    subst hf
    exact ⟨arr, rfl, ha⟩
  | (i, x) :: ps, (off, size, y) :: qs, vs, cs, zs, arr, hok, hv, hf, ha => by
    simp only [okParts, Bool.and_eq_true, decide_eq_true_eq] at hok
    obtain ⟨⟨hp, ho⟩, hrest⟩ := hok
    simp only [partsV] at hv
    split at hv
    · rename_i v hy
      split at hv
      · rename_i vs' hvs
        simp only [Option.some.injEq] at hv
        subst hv
        simp only [fillV] at hf
        split at hf
        · rename_i hc
          have hr := opd_sound hi hE ho hy
          have hcells := Rep.cells hr hc.1
          have hl : v.cs.length = (a.eval x).cells.size := by simpa using hcells.length
          have hlen : cs.length = arr.size := by simpa using ha.length
          obtain ⟨_, hc1, hc2⟩ := hc
          have hsz : (a.eval x).cells.size = size := by omega
          have hfold : (((a.eval x).cells.zipIdx.foldl (fun cs p => cs.setIfInBounds (off + p.2) p.1) arr)).toList = lay arr.toList off (a.eval x).cells.toList := by
            rw [← Array.foldl_toList, Array.toList_zipIdx]
            have := foldl_lay off (a.eval x).cells.toList 0 arr (by simp; omega)
            simpa [lay] using this
          obtain ⟨arr', h1, h2⟩ := fill_sound hi hE (arr := ((a.eval x).cells.zipIdx.foldl (fun cs p => cs.setIfInBounds (off + p.2) p.1) arr)) hrest hvs hf (by rw [hfold]; exact ha.lay hcells off)
          refine ⟨arr', ?_, h2⟩
          simp only [List.map_cons, Instr.fill, hp]
          rw [if_neg (by simp; omega)]
          exact h1
        · cases hf
      · cases hv
    · cases hv
  | [], _ :: _, vs, cs, zs, arr, hok, _, _, _ => by simp [okParts] at hok
  | _ :: _, [], vs, cs, zs, arr, hok, _, _, _ => by simp [okParts] at hok
theorem okDs_C {l : List Value} {z : List D} (h : okDs l z = true) : All2 (RepC κ) (ofDs z) l := ofDs_rep (okDs_rep h)
def bPlace (P : Program) (t : TypeId) : Option (Nat → Option (Nat × Nat)) := match P.underlying t with
  | some (.array _ e) => match P.info? e with
    | some ie => some fun i => some (i * ie.size, ie.size)
    | none => none
  | some (.struct fields) => match fields.toList.mapM (fun f => (P.info? f.type).map fun i => (f.offset, i.size)) with
    | some places => some (places.toArray[·]?)
    | none => none
  | _ => none
theorem build_sound {t : TypeId} {z : List D} {ps : Array (Nat × Operand)} {qs : List (Nat × Nat × Opd)} {place : Nat → Option (Nat × Nat)} (hz : zeroIs P t z = true) (hpl : bPlace P t = some place) (hok : okParts κ.L place ps.toList qs = true) (hi : Inv Pr κ st) {e : Env} {a : Act} (hE : ERel κ e a)
    {vs : List (Nat × Nat × V)} (hv : partsV Pr e qs = some vs) {zs : List V} (hf : fillV (ofDs z) vs = some zs) :
    ∃ v, (Instr.build t (ps.map fun (i, x) => (i, a.eval x))).run P w = .ok v w ∧ Rep κ (.agg zs) v := by
  obtain ⟨i, zv, h1, h2, h3, h4⟩ := zeroIs_spec hz
  obtain ⟨arr', hfill, ha⟩ := fill_sound hi hE (arr := zv.cells) hok hv hf (okDs_C h3)
  have hb : P.built t (ps.map fun (i, x) => (i, a.eval x)).toList = some arr' := by
    rw [Array.toList_map]
    unfold bPlace at hpl
    unfold Program.built
    rw [h1]
    cases hu : P.underlying t with
    | none => rw [hu] at hpl; cases hpl
    | some d =>
      rw [hu] at hpl
      cases d <;> simp only at hpl <;> try (cases hpl; done)
      · split at hpl
        · rename_i ie hie
          simp only [Option.some.injEq] at hpl
          subst hpl
          simp only [h2, hie]
          exact hfill
        · cases hpl
      · split at hpl
        · rename_i places hp
          simp only [Option.some.injEq] at hpl
          subst hpl
          simp only [h2, hp]
          exact hfill
        · cases hpl
  exact ⟨.agg arr', run_build w t _ arr' hb, arr'.toList, rfl, ha⟩
theorem reps_len {α : Type} (n : Nat) (z : List α) : (reps n z).length = n * z.length := by
  simp [reps]
/-- The cells of n zero values. -/
theorem reps_cells {z : List D} {l : List Value} (h : All2 (RepD κ.L κ.imm) z l) (n : Nat) : All2 (RepD κ.L κ.imm) (reps n z) (reps n l) := by
  induction n with
  | zero => exact .nil
  | succ n ih =>
    have : ∀ {α : Type} (x : List α), reps (n + 1) x = x ++ reps n x := fun x => by simp [reps, List.replicate_succ]
    rw [this, this]
    exact h.append ih
theorem reps_get {α : Type} {z : List α} {n j : Nat} (hj : j < n * z.length) : (reps n z)[j]? = z[j % z.length]? := by
  induction n generalizing j with
  | zero => simp at hj
  | succ n ih =>
    have : reps (n + 1) z = z ++ reps n z := by simp [reps, List.replicate_succ]
    rw [this]
    by_cases h : j < z.length
    · rw [List.getElem?_append_left h, Nat.mod_eq_of_lt h]
    · rw [List.getElem?_append_right (by omega), ih (by rw [Nat.add_mul] at hj; omega)]
      congr 1
      rw [Nat.mod_eq_sub_mod (by omega : j ≥ z.length)]
theorem made_toList {z : Array Value} {n : Nat} : (madeCells z (n * z.size)).toList = reps n z.toList := by
  apply List.ext_getElem?
  intro j
  by_cases hj : j < n * z.size
  · rw [reps_get (by simpa using hj)]
    have hz : 0 < z.size := by
      rcases Nat.eq_zero_or_pos z.size with h | h
      · rw [h] at hj; simp at hj
      · exact h
    have hm := Nat.mod_lt j hz
    simp [madeCells, hj, hm]
  · rw [List.getElem?_eq_none (by simp [madeCells]; omega), List.getElem?_eq_none (by rw [reps_len]; simpa using hj)]
theorem lits_sound {t e : TypeId} {n : Nat} {z : List D} {ps : Array (Nat × Operand)} {qs : List (Nat × Nat × Opd)} (hu : P.underlying t = some (.slice e)) (hz : zeroIs P e z = true) (hn : n * z.length ≤ 16777216)
    (hok : okParts κ.L (fun i => some (i * z.length, z.length)) ps.toList qs = true) (hi : Inv Pr κ st) {env : Env} {a : Act} (hE : ERel κ env a)
    {vs : List (Nat × Nat × V)} (hv : partsV Pr env qs = some vs) {zs : List V} (hf : fillV (ofDs (reps n z)) vs = some zs) :
    ∃ arr, (Instr.buildSlice t n (ps.map fun (i, x) => (i, a.eval x))).run P w = .ok (.slice (some ⟨w.heap.size, 0, none⟩) n n) (w.alloc (.cells arr e)) ∧ All2 (RepC κ) zs arr.toList := by
  obtain ⟨i, zv, h1, h2, h3, h4⟩ := zeroIs_spec hz
  have hlen : z.length = i.size := by
    have h5 : z.length = zv.cells.size := by simpa using (okDs_rep (L := κ.L) (I := κ.imm) h3).length
    omega
  have hcells : All2 (RepC κ) (ofDs (reps n z)) (madeCells zv.cells (n * zv.cells.size)).toList := by
    rw [made_toList]
    exact ofDs_rep (reps_cells (okDs_rep h3) n)
  obtain ⟨arr', hfill, ha⟩ := fill_sound hi hE (arr := madeCells zv.cells (n * zv.cells.size)) hok hv hf hcells
  refine ⟨arr', ?_, ha⟩
  rw [h4, hlen] at hfill
  have hbig : ¬ (16777216 < n * i.size) := by rw [← hlen]; omega
  have hmap : (ps.map fun (i, x) => (i, a.eval x)).toList = ps.toList.map fun (i, x) => (i, a.eval x) := Array.toList_map
  unfold Instr.buildSlice
  simp only [Sem.run_bind, run_underlying hu, Result.andThen_ok, sizeOf, typeInfo, run_program, h1, Sem.run_pure]
  by_cases h0 : n * i.size = 0
  · have he : madeCells zv.cells (n * i.size) = #[] := by rw [h0]; simp [madeCells]
    rw [he] at hfill
    have hf2 : Instr.fill (fun j => some (j * i.size, i.size)) #[] (ps.toList.map fun x => (x.fst, a.eval x.snd)) = some arr' := hfill
    have h00 : ∀ f : Nat → Value, (Array.range 0).map f = #[] := fun f => by simp [Array.range_zero']
    simp only [hbig, h0, if_false, if_true, Sem.run_bind, Sem.run_pure, Result.andThen_ok, h00, Sem.run_ite, ite_false, ite_true, Array.toList_map]
    simp [hf2, newRow]
  · have hm : ((Array.range (n * i.size)).map (zv.cells[· % zv.cells.size]!)) = madeCells zv.cells (n * i.size) := rfl
    have hf2 : Instr.fill (fun j => some (j * i.size, i.size)) (madeCells zv.cells (n * i.size)) (ps.toList.map fun x => (x.fst, a.eval x.snd)) = some arr' := hfill
    simp [hbig, h0, zeroValue, typeInfo, h1, h2, newRow, hm, hf2]
end
end Go.Sh
