/- append to rows that may still be written: room may be left or not, nobody knows how much. -/
import Derived.Test.YtgafhgbnjohbeabDoorSh22
set_option linter.unusedVariables false
set_option linter.unusedSimpArgs false
namespace Go.Sh
open Go.RowKit

/-- A slice's cells. -/
def vwV (size : Nat) (st : St) : V → Option (Nat × List V)
  | .rsl sz id off n _ => if sz = size then match st.row id with
    | some cs => if off + n * size ≤ cs.length then some (n, (cs.drop off).take (n * size)) else none
    | none => none
    else none
  | x => (vw size st x).map fun p => (p.1, ofDs p.2)
/-- append, whatever room there is. -/
def appW (size bytes : Nat) (zero : List D) (st : St) (s x : V) (Q : V → St → Prop) : Prop := match s with
  | .rsl sz id off n cap => sz = size ∧ ∃ cs m ds, st.row id = some cs ∧ vwV size st x = some (m, ds) ∧ ds.length = m * size ∧ off + cap * size ≤ cs.length ∧ (n + m) * bytes ≤ 140737488355328 ∧ n + m ≤ 140737488355328 ∧
      (n + m ≤ cap → m = 0 → Q (.rsl size id off n cap) st) ∧
      (n + m ≤ cap → 0 < m → ∃ st', st.setBlk id (.row (lay cs (off + n * size) ds)) = some st' ∧ Q (.rsl size id off (n + m) cap) st') ∧
      (cap < n + m → ∀ k, Q (.rsl size st.heap.length 0 (n + m) (n + m + k)) (st.push (.row ((cs.drop off).take (n * size) ++ ds ++ ofDs (reps k zero)))))
  | .d (.sl 0 false []) => ∃ m ds, vwV size st x = some (m, ds) ∧ ds.length = m * size ∧ m * bytes ≤ 140737488355328 ∧ m ≤ 140737488355328 ∧
      (m = 0 → Q (.d (.sl 0 false [])) st) ∧ (0 < m → ∀ k, Q (.rsl size st.heap.length 0 m (m + k)) (st.push (.row (ds ++ ofDs (reps k zero)))))
  | _ => False
section
variable {P : Program} {Pr : Prog} {κ : K} {st st' : St}
theorem srcV_cells (hi : Inv Pr κ st) {size : Nat} {x : V} {m : Nat} {cs : List V} (h : vwV size st x = some (m, cs)) (hlen : cs.length = m * size) {vx : Value} (hx : Rep κ x vx) :
    ∃ l, All2 (RepC κ) cs l ∧ (∀ P w, w.heap = κ.w.heap → (Builtin.lenOf vx).run P w = .ok m w ∧ (Builtin.firstCells size m vx).run P w = .ok l.toArray w) ∧ ∀ v ∈ l, v.oneCell' = true := by
  unfold vwV at h
  split at h
  · rename_i sz id off n cap
    split at h
    case isFalse => cases h
    rename_i hsz
    subst hsz
    split at h
    case h_2 => cases h
    rename_i cs0 hrow
    split at h
    case isFalse => cases h
    rename_i hfit
    simp only [Option.some.injEq, Prod.mk.injEq] at h
    obtain ⟨rfl, rfl⟩ := h
    obtain ⟨b, o, h1, rfl, hcap, ho⟩ := hx
    obtain ⟨b', arr, e, h2, h3, h4, h5⟩ := hi.rows id cs0 hrow
    obtain rfl : b = b' := by rw [h1] at h2; exact Option.some.inj h2
    have ha := (h4.drop off).take (n * sz)
    refine ⟨_, ha, fun P w hw => ⟨by simp [Builtin.lenOf], ?_⟩, All2.one ha⟩
    have hll := ha.length
    refine run_firstCells_some w sz n ⟨b, o, none⟩ n cap _ (by omega) (fun j v hj => ?_)
    have hj' := (take_get hj).2
    have hjlt := (take_get hj).1
    rw [List.getElem?_drop] at hj'
    rw [Addr.add_lit]
    have hoo : o = off := by
      rcases ho with rfl | ho
      · have : n = 0 := by omega
        subst this
        simp at hjlt
      · exact ho
    subst hoo
    rw [World.cell?_of_block (w := κ.w) (by rw [hw]), cell_of_row κ.w b (o + j) arr e (0, 0) h3]
    simpa using hj'
  · simp only [Option.map_eq_some_iff, Prod.mk.injEq] at h
    obtain ⟨⟨n, ds⟩, h, rfl, rfl⟩ := h
    simp only [ofDs, List.length_map] at hlen
    obtain ⟨l, ha, hr, ho⟩ := src_cells hi h hlen hx
    refine ⟨l, all2_ofDs ha, fun P w hw => ?_, ho⟩
    obtain ⟨h1, h2⟩ := hr P w hw
    refine ⟨h1, ?_⟩
    have := h2 n (Nat.le_refl _)
    rwa [List.take_of_length_le (by rw [← ha.length]; omega)] at this
theorem zeroCells_reps {z : Array Value} {n : Nat} : (Builtin.zeroCells z n).toList = reps n z.toList := by
  apply List.ext_getElem?
  intro j
  have hlen : (Builtin.zeroCells z n).size = n * z.size := by simp [Builtin.zeroCells]
  rw [Array.getElem?_toList]
  by_cases hj : j < n * z.size
  · rw [reps_get (by simpa using hj)]
    have hpos : 0 < z.size := by
      rcases Nat.eq_zero_or_pos z.size with h | h
      · rw [h] at hj; omega
      · exact h
    have hmod : j % z.size < z.size := Nat.mod_lt _ hpos
    simp [Builtin.zeroCells, hj, getElem!_pos, hmod]
  · rw [Array.getElem?_eq_none (by omega), List.getElem?_eq_none (by rw [reps_len]; simpa using hj)]
theorem appR_mem (hi : Inv Pr κ st) {T U ty e : TypeId} {size bytes : Nat} {zero : List D} (hu : P.underlying T = some (.slice e)) (hxt : ∃ d, P.underlying U = some d ∧ ∀ k, d ≠ .int k) (hz : zeroIs P e zero = true) (hs : szIs P e size = true)
    (hby : bytesIs P e bytes = true) {s x : V} {Q : V → St → Prop} (h : appW size bytes zero st s x Q) {vs vx : Value} (rs : Rep κ s vs) (rx : Rep κ x vx) :
    ∃ r st', Mem P Pr κ st' r (Builtin.append_ #[T, U] ty #[vs, vx]) ∧ Fl st st' ∧ Q r st' := by
  obtain ⟨d, hd, hdk⟩ := hxt
  have hdf : (match d with | .int _ => true | _ => false) = false := by
    cases d <;> first | rfl | exact absurd rfl (hdk _)
  obtain ⟨i, zv, z1, z2, z3, z4⟩ := zeroIs_spec hz
  have hsz : i.size = size := by
    have := run_sizeOf (w := κ.w) hs
    unfold szIs at hs
    rw [z1] at hs
    simpa using hs
  have hb : i.bytes = bytes := by
    unfold bytesIs at hby
    rw [z1] at hby
    simpa using hby
  subst hb
  have hzr : ∀ k, All2 (RepC κ) (ofDs (reps k zero)) (Builtin.zeroCells zv.cells k).toList := fun k => by
    rw [zeroCells_reps]
    exact ofDs_rep (reps_cells (okDs_rep z3) k)
  -- a new row
  have fresh : ∀ (cs : List V) (l : List Value) (n cap : Nat) (v : Value), All2 (RepC κ) cs l → n ≤ cap → v = .slice (some ⟨κ.w.heap.size, 0, none⟩) n cap →
      (Builtin.append_ #[T, U] ty #[vs, vx]).run P κ.w = .ok v (κ.w.drew.alloc (.cells l.toArray e)) → Mem P Pr κ (st.push (.row cs)) (.rsl size st.heap.length 0 n cap) (Builtin.append_ #[T, U] ty #[vs, vx]) := by
    intro cs l n cap v ha hn hv hr
    obtain ⟨g1, g2⟩ := hi.grow (w' := κ.w.drew) (grownBy_heap rfl rfl rfl rfl)
    obtain ⟨k1, k2⟩ := g2.pushI (.cells l.toArray e) (.row cs) ⟨_, _, rfl, by simpa using ha.mono fun _ _ => RepC.mono g1⟩
    subst hv
    refine ⟨_, _, hr, g1.trans k1, k2, κ.w.heap.size, 0, ?_, rfl, hn, .inr rfl⟩
    rw [← hi.len]
    exact push_last (κ.to κ.w.drew) _
  unfold appW at h
  split at h
  · rename_i sz id off n cap
    obtain ⟨rfl, cs, m, ds, hrow, hvw, hlen, hcl, hbytes, h47, q1, q2, q3⟩ := h
    obtain ⟨l, ha, hrun, hone⟩ := srcV_cells hi hvw hlen rx
    obtain ⟨b, o, h1, rfl, hcap, ho⟩ := rs
    obtain ⟨b', arr, e0, h2, h3, h4, h5⟩ := hi.rows id cs hrow
    obtain rfl : b = b' := by rw [h1] at h2; exact Option.some.inj h2
    have hll := ha.length
    have hlen4 := h4.length
    obtain ⟨hr1, hr2⟩ := hrun P κ.w rfl
    have hn64 : n + m ≤ 9223372036854775807 := by omega
    by_cases hroom : n + m ≤ cap
    · rcases Nat.eq_zero_or_pos m with hm | hm
      · subst hm
        refine ⟨.rsl sz id off n cap, _, ⟨κ, .slice (some ⟨b, o, none⟩) n cap, ?_, K.le.refl _, hi, b, o, h1, rfl, hcap, ho⟩, Fl.refl _, q1 hroom rfl⟩
        have hl0 : l = [] := List.eq_nil_of_length_eq_zero (by rw [← hll, hlen]; omega)
        subst hl0
        have hroom' : n ≤ cap := hcap
        simp [Builtin.append_, run_underlying hu, run_underlying hd, hdf, sizeOf, typeInfo, z1, hr1, hroom', hsz, hr2, storeCells]
      · obtain ⟨st', hst, hQ⟩ := q2 hroom hm
        have hoo : o = off := by
          rcases ho with rfl | ho
          · omega
          · exact ho
        subst hoo
        have hmul : (n + m) * sz ≤ cap * sz := Nat.mul_le_mul_right _ hroom
        rw [Nat.add_mul] at hmul
        obtain ⟨κ', w1, w2, w3⟩ := write_at (P := P) (off := o + n * sz) hi hrow h1 h3 h4 h5 (l := l) ha (by omega) hst
        refine ⟨.rsl sz id o (n + m) cap, _, ⟨κ', .slice (some ⟨b, o, none⟩) (n + m) cap, ?_, w2, w3, b, o, w2.ρ _ _ h1, rfl, hroom, .inr rfl⟩, Fl.setBlk hst, hQ⟩
        have hadd : (⟨b, o, none⟩ : Addr).add (n * sz) = ⟨b, o + n * sz, none⟩ := Addr.add_lit _ _ _
        simp [Builtin.append_, run_underlying hu, run_underlying hd, hdf, sizeOf, typeInfo, z1, hr1, hroom, hsz, hr2, hadd, w1]
    · have hge := grownCap_ge κ.w (n + m) cap e
      obtain ⟨k, hk⟩ : ∃ k, grownCap κ.w (n + m) cap e = n + m + k := ⟨grownCap κ.w (n + m) cap e - (n + m), by omega⟩
      refine ⟨_, _, ?_, Fl.push _ _, q3 (by omega) k⟩
      have hmul : n * sz ≤ cap * sz := Nat.mul_le_mul_right _ hcap
      have hold := (h4.drop off).take (n * sz)
      have hol := hold.length
      simp only [List.length_take, List.length_drop] at hol
      refine fresh _ ((arr.toList.drop off).take (n * sz) ++ l ++ (Builtin.zeroCells zv.cells k).toList) (n + m) (n + m + k) _ ((hold.append ha).append (hzr k)) (by omega) rfl ?_
      have h63' : ¬ (9223372036854775807 < ((n : Int) + (m : Int))) := by omega
      have hfit := growslice_fits (need := n + m) (old := cap) (bytes := i.bytes) (by omega) hbytes
      have h48' : ¬ (281474976710656 < Builtin.nextslicecap (n + m) cap * i.bytes) := by omega
      have hsd := (hrun P κ.w.drew rfl).2
      have hfo : (Builtin.firstCells sz n (.slice (some ⟨b, o, none⟩) n cap)).run P κ.w.drew = .ok ((arr.toList.drop off).take (n * sz)).toArray κ.w.drew := by
        refine run_firstCells_some κ.w.drew sz n ⟨b, o, none⟩ n cap _ (by simp only [List.length_take, List.length_drop]; omega) (fun j v hj => ?_)
        have hj' := (take_get hj).2
        have hjlt := (take_get hj).1
        rw [List.getElem?_drop] at hj'
        rw [Addr.add_lit]
        have hoo : o = off := by
          rcases ho with rfl | ho
          · have : n = 0 := by omega
            subst this
            simp at hjlt
          · exact ho
        subst hoo
        show κ.w.cell? ⟨b, o + j, none⟩ = _
        rw [cell_of_row κ.w b (o + j) arr e0 (0, 0) h3]
        simpa using hj'
      have hgc : (grownCap κ.w (n + m) cap e) - (n + m) = k := by omega
      simp only [grownCap] at hk hgc
      simp [Builtin.append_, run_underlying hu, run_underlying hd, hdf, sizeOf, typeInfo, zeroValue, z1, z2, hr1, hroom, h63', h48', Question.forced, hsz, hfo, hsd, newRow]
      first
        | (refine ⟨hk, ?_⟩; rw [hgc]; congr 2; apply Array.ext'; simp [List.append_assoc])
        | (rw [hgc, hk]; congr 2; apply Array.ext'; simp [List.append_assoc])
  · obtain ⟨m, ds, hvw, hlen, hbytes, h47, q1, q2⟩ := h
    obtain ⟨l, ha, hrun, hone⟩ := srcV_cells hi hvw hlen rx
    obtain ⟨hr1, hr2⟩ := hrun P κ.w rfl
    have hll := ha.length
    have hvs : vs = .slice none 0 0 := by
      have rs : RepD _ _ _ _ := rs
      simp only [RepD] at rs
      obtain ⟨A, cap, hv, _, hn, hc, _⟩ := rs
      cases A with
      | none => rw [hv, hc rfl]
      | some a => cases hn
    subst hvs
    rcases Nat.eq_zero_or_pos m with hm | hm
    · subst hm
      refine ⟨_, _, ⟨κ, .slice none 0 0, ?_, K.le.refl _, hi, rs⟩, Fl.refl _, q1 rfl⟩
      have hl0 : l = [] := List.eq_nil_of_length_eq_zero (by rw [← hll, hlen]; omega)
      subst hl0
      simp [Builtin.append_, run_underlying hu, run_underlying hd, hdf, sizeOf, typeInfo, z1, hr1, hsz, hr2]
    · have hge := grownCap_ge κ.w m 0 e
      obtain ⟨k, hk⟩ : ∃ k, grownCap κ.w m 0 e = m + k := ⟨grownCap κ.w m 0 e - m, by omega⟩
      refine ⟨_, _, ?_, Fl.push _ _, q2 hm k⟩
      refine fresh _ (l ++ (Builtin.zeroCells zv.cells k).toList) m (m + k) _ (ha.append (hzr k)) (by omega) rfl ?_
      have hn : m ≠ 0 := by omega
      have h63' : ¬ (9223372036854775807 < (m : Int)) := by omega
      have hnx : Builtin.nextslicecap m 0 = m := nextslicecap_zero (by omega)
      have h48' : ¬ (281474976710656 < Builtin.nextslicecap m 0 * i.bytes) := by rw [hnx]; omega
      have hsd := (hrun P κ.w.drew rfl).2
      have hgc : (grownCap κ.w m 0 e) - m = k := by omega
      simp only [grownCap] at hk hgc
      simp [Builtin.append_, run_underlying hu, run_underlying hd, hdf, sizeOf, typeInfo, zeroValue, z1, z2, hr1, hn, h63', h48', Question.forced, run_firstCells_none, hsz, hsd, newRow]
      first
        | (refine ⟨hk, ?_⟩; rw [hgc]; congr 2; apply Array.ext'; simp [List.append_assoc])
        | (rw [hgc, hk]; congr 2; apply Array.ext'; simp [List.append_assoc])
  · exact h.elim
end
end Go.Sh
