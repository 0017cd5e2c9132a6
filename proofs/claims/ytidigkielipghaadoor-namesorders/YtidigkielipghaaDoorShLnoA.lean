/- The places in an order that a number tells (shuffled): a list in a row that is new. -/
import Derived.Test.YtidigkielipghaaDoorShLnmQ
import Derived.Test.YtidigkielipghaaDoorShBe
import Derived.Test.YtidigkielipghaaDoorShFlaw15
set_option linter.unusedVariables false
set_option linter.unusedSimpArgs false
set_option linter.unusedSectionVars false
namespace Go.Sh
def iV (l : List Int) : List V := l.map fun x => .d (.i .i64 x)
theorem iV_len (l : List Int) : (iV l).length = l.length := by simp [iV]
/-- An append leaves the tokens as they are. -/
theorem appW_tips {size bytes : Nat} {zero : List D} {st : St} {s x : V} {Q : V → St → Prop} (h : appW size bytes zero st s x Q) : appW size bytes zero st s x fun v s' => Q v s' ∧ s'.tips = st.tips ∧ s'.tfloor = st.tfloor := by
  unfold appW at h ⊢
  split at h
  · obtain ⟨h0, cs, m, ds, h1, h2, h3, h4, h5, h6, h7, h8, h9⟩ := h
    refine ⟨h0, cs, m, ds, h1, h2, h3, h4, h5, h6, fun a b => ⟨h7 a b, rfl, rfl⟩, fun a b => ?_, fun a k => ⟨h9 a k, rfl, rfl⟩⟩
    obtain ⟨st', e1, e2⟩ := h8 a b
    refine ⟨st', e1, e2, ?_⟩
    unfold St.setBlk at e1
    split at e1
    · obtain rfl := Option.some.inj e1
      exact ⟨rfl, rfl⟩
    · cases e1
  · obtain ⟨m, ds, h1, h2, h3, h4, h5, h6⟩ := h
    exact ⟨m, ds, h1, h2, h3, h4, fun a => ⟨h5 a, rfl, rfl⟩, fun a k => ⟨h6 a k, rfl, rfl⟩⟩
  · exact h.elim
theorem appW_mono' {size bytes : Nat} {zero : List D} {st : St} {s x : V} {Q Q' : V → St → Prop} (h : appW size bytes zero st s x Q) (hQ : ∀ v s', Q v s' → Q' v s') : appW size bytes zero st s x Q' := by
  unfold appW at h ⊢
  split at h
  · obtain ⟨h0, cs, m, ds, h1, h2, h3, h4, h5, h6, h7, h8, h9⟩ := h
    refine ⟨h0, cs, m, ds, h1, h2, h3, h4, h5, h6, fun a b => hQ _ _ (h7 a b), fun a b => ?_, fun a k => hQ _ _ (h9 a k)⟩
    obtain ⟨st', e1, e2⟩ := h8 a b
    exact ⟨st', e1, hQ _ _ e2⟩
  · obtain ⟨m, ds, h1, h2, h3, h4, h5, h6⟩ := h
    exact ⟨m, ds, h1, h2, h3, h4, fun a => hQ _ _ (h5 a), fun a k => hQ _ _ (h6 a k)⟩
  · exact h.elim
/-- A list of numbers in a row that is new. -/
def NwL (st s : St) (v : V) (l : List Int) : Prop := ∃ j, LR s 1 v l.length (iV l) j ∧ Gr st s (fun _ => False) (fun _ => True) ∧ (∀ r, j = some r → st.heap.length ≤ r) ∧ s.tips = st.tips ∧ s.tfloor = st.tfloor
theorem NwL.nil (st : St) : NwL st st (.d (.sl 0 false [])) [] := ⟨none, .nil _ _, .refl _ _ _, (fun r hr => by cases hr), rfl, rfl⟩
theorem NwL.app {st s : St} {v : V} {l : List Int} (h : NwL st s v l) (hf : st.floor = 0) (hl : (l.length + 1) * 8 ≤ 140737488355328) (x : Int) {Q : V → St → Prop} (hQ : ∀ s' v', NwL st s' v' (l ++ [x]) → Q v' s') : appW 1 8 [D.i .i64 0] s v (.d (.sl 1 true [.i .i64 x])) Q := by
  obtain ⟨j, h1, h2, h3, ht, htf⟩ := h
  refine appW_mono' (Q := fun v' s' => (s'.tips = s.tips → s'.tfloor = s.tfloor → Q v' s') ∧ s'.tips = s.tips ∧ s'.tfloor = s.tfloor) (appW_tips ?_) fun v' s' ⟨a, b, c⟩ => a b c
  refine appW_LR (h2.floor.trans hf) h1 (show vwV 1 s (.d (.sl 1 true [D.i .i64 x])) = some (1, ofDs [D.i .i64 x]) from rfl) (by simp [ofDs]) rfl (by omega) (by omega) ?_
  intro s' v' j' h4 g4 n4 ht1 ht2
  refine hQ s' v' ⟨j', ?_, ?_, ?_, ht1.trans ht, ht2.trans htf⟩
  · have e : iV l ++ ofDs [D.i .i64 x] = iV (l ++ [x]) := by simp [iV, ofDs]
    rw [e] at h4
    simpa using h4
  · have := (h2.mono (A' := fun r => st.heap.length ≤ r) (fun _ _ e => e.elim) fun _ h => h).trans (g4.mono (A' := fun r => st.heap.length ≤ r) (fun r hr e => h3 r e) fun _ _ => trivial)
    exact this.mono (fun r hr e => by omega) fun _ h => h
  · intro r hr
    have := h2.len
    rcases n4 with e | ⟨i, e, hi, _⟩
    · exact h3 r (by rw [← e]; exact hr)
    · rw [e] at hr
      obtain rfl := Option.some.inj hr
      omega
theorem NwL.at' {st s : St} {v : V} {l : List Int} (h : NwL st s v l) (hf : st.floor = 0) {k : Nat} (hk : k < l.length) :
    ∃ j0 c, iaddrV 1 v (.d (.i .i64 (k : Int))) = some (.ptr j0 k) ∧ s.row j0 = some c ∧ k + 1 ≤ c.length ∧ ((c.drop k).take 1 = [.d (.i .i64 (l.getD k 0))]) ∧ ∀ y : Int, s.setBlk j0 (.row (lay c k [.d (.i .i64 y)])) = some (s.put j0 (lay c k [.d (.i .i64 y)])) ∧ NwL st (s.put j0 (lay c k [.d (.i .i64 y)])) v (l.set k y) := by
  obtain ⟨j, h1, h2, h3, ht, htf⟩ := h
  obtain ⟨j0, hj, hia⟩ := h1.iaddr (k := .i64) hk
  have hfl : s.floor = 0 := h2.floor.trans hf
  obtain ⟨hlen, h1' | ⟨j1, cap, tail, hj1, hv, hnc, hrow, htl⟩⟩ := h1
  · obtain ⟨e, _⟩ := h1'
    rw [hj] at e
    cases e
  rw [hj] at hj1
  obtain rfl := Option.some.inj hj1
  have hil := iV_len l
  refine ⟨j0, iV l ++ tail, by simpa using hia, hrow, by rw [List.length_append, hil]; omega, ?_, fun y => ⟨setBlk_put hfl, some j0, ⟨by rw [iV_len]; simp, .inr ⟨j0, cap, tail, rfl, by rw [List.length_set]; exact hv, by rw [List.length_set]; exact hnc, ?_, by rw [List.length_set]; exact htl⟩⟩, ?_, fun r hr => h3 r (by rw [hj]; exact hr), ht, htf⟩⟩
  · rw [List.drop_append_of_le_length (by omega), List.take_append_of_le_length (by simp; omega)]
    have : (iV l).drop k = .d (.i .i64 (l.getD k 0)) :: (iV l).drop (k + 1) := by
      rw [List.drop_eq_getElem_cons (by omega)]
      simp [iV, hk]
    rw [this]
    rfl
  · rw [row_put_eq (row_lt hrow)]
    congr 1
    unfold lay
    have e1 : (iV l ++ tail).take k = (iV l).take k := List.take_append_of_le_length (by omega)
    have e2 : (iV l ++ tail).drop (k + 1) = (iV l).drop (k + 1) ++ tail := List.drop_append_of_le_length (by omega)
    simp only [List.length_cons, List.length_nil, Nat.zero_add]
    rw [e1, e2]
    have e3 : iV (l.set k y) = (iV l).take k ++ [.d (.i .i64 y)] ++ (iV l).drop (k + 1) := by
      unfold iV
      rw [List.map_set, List.set_eq_take_append_cons_drop, if_pos (by simpa using hk)]
      simp
    rw [e3]
    simp
  · have g4 : Gr s (s.put j0 (lay (iV l ++ tail) k [.d (.i .i64 y)])) (fun r => st.heap.length ≤ r) (fun _ => True) := Gr.put hrow (lay_len' (by rw [List.length_append, hil]; simp; omega)) (h3 j0 hj) fun _ _ _ => .inr trivial
    have := (h2.mono (A' := fun r => st.heap.length ≤ r) (fun _ _ e => e.elim) fun _ h => h).trans g4
    exact this.mono (fun r hr e => by omega) fun _ h => h
def noFns : List (Nat × SFn) := [(316, F316_spindlelaw15_shuffled), (318, F318_spindlelaw15_NamesOrders), (321, F321_spindlelaw0_SameTables)]
def upI (n : Nat) : List Int := (List.range n).map fun k : Nat => (k : Int)
section
variable {pr : Prog} (hp : Sub noFns pr) {st : St}
include hp
theorem callW_shuffled (hf : st.floor = 0) (c : Nat) (seed : Int) (hc : (c + 1) * 8 ≤ 140737488355328) : CallW pr 316 [.d (.i .i64 c), .d (.i .i64 seed)] st fun v s => ∃ l, NwL st s v l ∧ l.Perm (upI c) := by
  refine .run (fun _ => false) (hp.at 0 rfl) rfl ?_
  rw [start_raw _ rfl]
  refine codeC_of ?_
  simp [F316_spindlelaw15_shuffled]
  obtain ⟨J, hJ⟩ : ∃ J : Nat → Env → St → Prop, ∀ n' e s, J n' e s ↔ ∃ i w x l, i ≤ c ∧ n' = c - i ∧ e = [(0, .d (.i .i64 c)), (5, w), (6, .d (.i .u64 x)), (7, .d (.i .i64 ((i : Nat) : Int)))] ∧ NwL st s w l ∧ l.length = i ∧ l.Perm (upI i) ∧ 0 ≤ x ∧ x < 18446744073709551616 := ⟨_, fun _ _ _ => Iff.rfl⟩
  have hw64 : ∀ x : Int, IntKind.wrap .u64 x = x % 18446744073709551616 := fun x => by simp [IntKind.wrap, IntKind.signed, IntKind.bits]
  refine loopW_j (fun _ => false) J ?_ (n := c) ((hJ _ _ _).2 ⟨0, .d (.sl 0 false []), IntKind.wrap .u64 seed, [], Nat.zero_le _, rfl, by simp, .nil st, rfl, .refl _, by rw [hw64]; omega, by rw [hw64]; omega⟩)
  intro n' e s hh
  obtain ⟨i, w, x, l, hic, rfl, rfl, hl, hli, hlp, hx0, hx1⟩ := (hJ _ _ _).1 hh
  rcases Nat.lt_or_ge i c with hlt | hge
  · have hn1 : IntKind.wrap .i64 ((i : Int) + 1) = i + 1 := wrap_i64 (by omega) (by omega)
    have hu1 : IntKind.wrap .u64 ((i : Int) + 1) = i + 1 := by rw [hw64]; omega
    have hne : ¬ (i : Int) + 1 = 0 := by omega
    obtain ⟨t, ht, hti⟩ : ∃ t : Nat, IntKind.wrap .i64 (x.tmod ((i : Int) + 1)) = t ∧ t ≤ i := by
      have h1 : x.tmod ((i : Int) + 1) = x % ((i : Int) + 1) := Int.tmod_eq_emod_of_nonneg hx0
      have h2 := Int.emod_nonneg x hne
      have h3 := Int.emod_lt_of_pos x (b := (i : Int) + 1) (by omega)
      refine ⟨(x % ((i : Int) + 1)).toNat, ?_, by omega⟩
      rw [h1, wrap_i64 (by omega) (by omega)]
      omega
    obtain ⟨x', hx', hx'0, hx'1⟩ : ∃ x' : Int, IntKind.wrap .u64 (IntKind.wrap .u64 (x.tdiv ((i : Int) + 1)) + 1000003) = x' ∧ 0 ≤ x' ∧ x' < 18446744073709551616 := ⟨_, rfl, by rw [hw64]; omega, by rw [hw64]; omega⟩
    simp [F316_spindlelaw15_shuffled_b0, hlt, hn1, hu1, hne, ht, hx', fillV, reps, lay, ofDs]
    refine hl.app hf (by omega) 0 ?_
    intro s1 v1 hl1
    simp
    obtain ⟨J2, hJ2⟩ : ∃ J2 : Nat → Env → St → Prop, ∀ n' e s, J2 n' e s ↔ ∃ k y, t ≤ k ∧ k ≤ i ∧ n' = k - t ∧ e = [(0, .d (.i .i64 c)), (5, v1), (6, .d (.i .u64 x')), (7, .d (.i .i64 ((i : Nat) : Int))), (8, .d (.i .i64 ((t : Nat) : Int))), (9, .d (.i .i64 ((k : Nat) : Int)))] ∧ NwL st s v1 (l.take k ++ y :: l.drop k) := ⟨_, fun _ _ _ => Iff.rfl⟩
    refine loopW_j (fun _ => false) J2 ?_ (n := i - t) ((hJ2 _ _ _).2 ⟨i, 0, hti, Nat.le_refl _, rfl, by simp, by rw [List.take_of_length_le (by omega), List.drop_of_length_le (by omega)]; exact hl1⟩)
    intro m e2 s2 hh2
    obtain ⟨k, y, htk, hki, rfl, rfl, hl2⟩ := (hJ2 _ _ _).1 hh2
    have hll : (l.take k ++ y :: l.drop k).length = i + 1 := by simp; omega
    rcases Nat.lt_or_ge t k with hk | hk
    · obtain ⟨p, rfl⟩ : ∃ p, k = p + 1 := ⟨k - 1, by omega⟩
      have hkt : (t : Int) < (p : Int) + 1 := by omega
      have hwp : IntKind.wrap .i64 (p : Int) = p := wrap_i64 (by omega) (by omega)
      obtain ⟨j0, c0, r1, r2, r3, r4, _⟩ := hl2.at' hf (k := p) (by omega)
      obtain ⟨j1, c1, w1, w2, w3, _, w5⟩ := hl2.at' hf (k := p + 1) (by omega)
      have hg : (l.take (p + 1) ++ y :: l.drop (p + 1)).getD p 0 = l.getD p 0 := by
        simp only [List.getD_eq_getElem?_getD]
        rw [List.getElem?_append_left (by simp; omega), List.getElem?_take, if_pos (by omega)]
      rw [hg] at r4
      obtain ⟨w6, w7⟩ := w5 (l.getD p 0)
      have hset : (l.take (p + 1) ++ y :: l.drop (p + 1)).set (p + 1) (l.getD p 0) = l.take p ++ l.getD p 0 :: l.drop p := by
        have hpl : p < l.length := by omega
        have e1 : l.getD p 0 = l[p] := by simp [hpl]
        have hlt : (l.take (p + 1)).length = p + 1 := by rw [List.length_take]; omega
        rw [List.set_append_right _ _ (by omega), hlt, Nat.sub_self, List.set_cons_zero, e1]
        have e2 : l.take (p + 1) = l.take p ++ [l[p]] := (List.take_append_getElem hpl).symm
        rw [e2, List.drop_eq_getElem_cons hpl]
        simp only [List.append_assoc, List.cons_append, List.nil_append]
      rw [hset] at w7
      generalize l.getD p 0 = z at r4 w6 w7
      have w1' : iaddrV 1 v1 (.d (.i .i64 ((p : Int) + 1))) = some (.ptr j1 (p + 1)) := by rw [← w1]; simp
      simp [F316_spindlelaw15_shuffled_b1, hkt, hwp, r1, r2, r3, r4, mkV, w1', w2, w3, w6]
      exact ⟨p - t, by omega, (hJ2 _ _ _).2 ⟨p, z, by omega, by omega, rfl, rfl, w7⟩⟩
    · obtain rfl : k = t := by omega
      obtain ⟨j1, c1, w1, w2, w3, _, w5⟩ := hl2.at' hf (k := k) (by omega)
      obtain ⟨w6, w7⟩ := w5 (i : Int)
      have hset : (l.take k ++ y :: l.drop k).set k (i : Int) = l.take k ++ (i : Int) :: l.drop k := by
        have hlt : (l.take k).length = k := by rw [List.length_take]; omega
        rw [List.set_append_right _ _ (by omega), hlt, Nat.sub_self, List.set_cons_zero]
      rw [hset] at w7
      simp [F316_spindlelaw15_shuffled_b1, w1, w2, w3, w6, hn1]
      refine ⟨c - (i + 1), by omega, (hJ _ _ _).2 ⟨i + 1, v1, x', l.take k ++ (i : Int) :: l.drop k, hlt, rfl, by simp, w7, by simp; omega, ?_, hx'0, hx'1⟩⟩
      have e1 : (l.take k ++ (i : Int) :: l.drop k).Perm ((i : Int) :: l) := by
        have := List.perm_middle (a := (i : Int)) (l₁ := l.take k) (l₂ := l.drop k)
        rwa [List.take_append_drop] at this
      have e2 : upI (i + 1) = upI i ++ [(i : Int)] := by simp [upI, List.range_succ]
      rw [e2]
      exact e1.trans ((hlp.cons (i : Int)).trans (List.perm_append_singleton (i : Int) (upI i)).symm)
  · obtain rfl : i = c := by omega
    simp [F316_spindlelaw15_shuffled_b0, FinW]
    exact ⟨l, hl, hlp⟩
end
end Go.Sh
