/- The rack: how it changes. -/
import Derived.Test.YtpgipjjhapapjaaShLewG
set_option linter.unusedVariables false
set_option linter.unusedSimpArgs false
set_option linter.unusedSectionVars false
namespace Go.Sh
theorem lbC_app (a b : List Lnd) : lbC (a ++ b) = lbC a ++ lbC b := by simp [lbC]
theorem lbC_split {lb : List Lnd} {i : Nat} {x : Lnd} (hx : lb[i]? = some x) : lbC lb = lbC (lb.take i) ++ (x.1 :: .d (.i .i64 x.2.1) :: lbC (lb.drop (i + 1))) := by
  conv => lhs; rw [← List.take_append_drop i lb, drop_cons hx]
  rw [lbC_app]
  simp [lbC]
theorem take_set_self {α : Type} {l : List α} {i : Nat} {x : α} : (l.set i x).take i = l.take i := by
  apply List.ext_getElem?
  intro n
  by_cases h : n < i
  · simp [List.getElem?_take, h, List.getElem?_set, show ¬ i = n by omega]
  · simp [List.getElem?_take, h]
theorem drop_set_self {α : Type} {l : List α} {i : Nat} {x : α} : (l.set i x).drop (i + 1) = l.drop (i + 1) := by
  apply List.ext_getElem?
  intro n
  rw [List.getElem?_drop, List.getElem?_drop, List.getElem?_set, if_neg (by omega)]
theorem lbC_set {lb : List Lnd} {i : Nat} {x : Lnd} (hi : i < lb.length) : lbC (lb.set i x) = lbC (lb.take i) ++ (x.1 :: .d (.i .i64 x.2.1) :: lbC (lb.drop (i + 1))) := by
  have h := lbC_split (lb := lb.set i x) (i := i) (x := x) (by simp [hi])
  rw [take_set_self, drop_set_self] at h
  exact h
section
variable {s s1 : St} {p : Nat} {k : Rk}
/-- A new list. -/
theorem RkI.newL (h : RkI s p k) {m : Nat} {c : List V} (hm : m ≤ 4194304) (hc : c.length = m * 8) :
    RkI ((s.push (.row c)).put p [.rsl 8 s.heap.length 0 m m, k.D]) p { k with L := .rsl 8 s.heap.length 0 m m, nL := m, jL := some s.heap.length } ∧ RkF s ((s.push (.row c)).put p [.rsl 8 s.heap.length 0 m m, k.D]) p k { k with L := .rsl 8 s.heap.length 0 m m, nL := m, jL := some s.heap.length } := by
  have hp := row_lt h.row
  have hrow : ∀ a q, k.lab p a = some q → a ≠ 0 → ((s.push (.row c)).put p [.rsl 8 s.heap.length 0 m m, k.D]).row q = s.row q := fun a q e hn => by
    rw [row_put_ne fun e2 => hn (h.sep a 0 q e (by rw [e2]; rfl)), row_old (lab_lt h e)]
  refine ⟨⟨h.fl, row_put_eq (by simp; omega), .inr ⟨_, c, rfl, rfl, by rw [row_put_ne (by omega)]; exact row_push_new rfl, hc⟩, h.Dr.row fun q e => hrow 2 q e (by decide), fun x hx => ?_, ?_, hm, h.small.2⟩, ?_, ?_⟩
  · rcases h.B x hx with h1 | ⟨q, c, h1, h2, h3, h4⟩
    · exact .inl h1
    · obtain ⟨n, hn, _⟩ := lb_lab (k := k) (p := p) hx h1
      exact .inr ⟨q, c, h1, h2, (hrow (n + 3) q hn (by omega)).trans h3, h4⟩
  · have key : ∀ a i, Rk.lab p { k with L := .rsl 8 s.heap.length 0 m m, nL := m, jL := some s.heap.length } a = some i → (a = 1 ∧ i = s.heap.length) ∨ (a ≠ 1 ∧ k.lab p a = some i ∧ i < s.heap.length) := by
      intro a i e
      match a, e with
      | 0, e => exact .inr ⟨by decide, e, lab_lt h (a := 0) e⟩
      | 1, e => exact .inl ⟨rfl, (Option.some.inj e).symm⟩
      | 2, e => exact .inr ⟨by decide, e, lab_lt h (a := 2) e⟩
      | n + 3, e => exact .inr ⟨by omega, e, lab_lt h (a := n + 3) e⟩
    intro a b i ha hb
    rcases key a i ha with ⟨a1, a2⟩ | ⟨a1, a2, a3⟩ <;> rcases key b i hb with ⟨b1, b2⟩ | ⟨b1, b2, b3⟩
    · omega
    · omega
    · omega
    · exact h.sep a b i a2 b2
  · have g1 : Kr s (s.push (.row c)) (fun r => ∃ a, k.lab p a = some r) := .push _
    exact g1.trans (.put ⟨0, rfl⟩)
  · intro a r e
    match a, e with
    | 0, e => exact .inl ⟨0, e⟩
    | 1, e => exact .inr (by have := Option.some.inj e; omega)
    | 2, e => exact .inl ⟨2, e⟩
    | n + 3, e => exact .inl ⟨n + 3, e⟩
/-- One lender more. -/
theorem RkI.more (h : RkI s p k) {v' : V} {j' : Option Nat} (hl : k.lb.length + 1 ≤ 4194304) (hD : LR s1 2 v' (k.lb.length + 1) (lbC k.lb ++ [.d (.sl 0 false []), .d (.i .i64 0)]) j') (g : Kr s s1 (fun i => k.jD = some i)) (hj : j' = k.jD ∨ ∃ i, j' = some i ∧ s.heap.length ≤ i ∧ i < s1.heap.length) :
    s1.row p = some [k.L, k.D] ∧ RkI (s1.put p [k.L, v']) p { k with D := v', jD := j', lb := k.lb ++ [(.d (.sl 0 false []), 0, none)] } ∧ RkF s (s1.put p [k.L, v']) p k { k with D := v', jD := j', lb := k.lb ++ [(.d (.sl 0 false []), 0, none)] } := by
  have hp := row_lt h.row
  have hgl := g.len
  have hpD : k.jD ≠ some p := fun e => by have := h.sep 2 0 p e rfl; omega
  have hp1 : s1.row p = some [k.L, k.D] := (g.keep p hp hpD).trans h.row
  have hrow : ∀ a q, k.lab p a = some q → a ≠ 0 → a ≠ 2 → (s1.put p [k.L, v']).row q = s.row q := fun a q e hn hn2 => by
    rw [row_put_ne fun e2 => hn (h.sep a 0 q e (by rw [e2]; rfl))]
    exact g.keep q (lab_lt h e) fun e2 => hn2 (h.sep a 2 q e e2)
  have key : ∀ a i, Rk.lab p { k with D := v', jD := j', lb := k.lb ++ [(.d (.sl 0 false []), 0, none)] } a = some i → (a ≠ 2 ∧ k.lab p a = some i) ∨ (a = 2 ∧ j' = some i) := by
    intro a i e
    match a, e with
    | 0, e => exact .inl ⟨by decide, e⟩
    | 1, e => exact .inl ⟨by decide, e⟩
    | 2, e => exact .inr ⟨rfl, e⟩
    | n + 3, e =>
      refine .inl ⟨by omega, ?_⟩
      simp only [Rk.lab] at e ⊢
      rw [List.getElem?_append] at e
      split at e
      · exact e
      · rename_i hn
        by_cases h0 : n - k.lb.length = 0
        · rw [h0] at e; cases e
        · rw [List.getElem?_eq_none (by simp; omega)] at e; cases e
  refine ⟨hp1, ⟨by simpa using g.floor.trans h.fl, row_put_eq (by omega), ?_, ?_, fun x hx => ?_, ?_, h.small.1, by simpa using hl⟩, ?_, ?_⟩
  · rcases h.Lr with h1 | ⟨r, c, h1, h2, h3, h4⟩
    · exact .inl h1
    · exact .inr ⟨r, c, h1, h2, (hrow 1 r h1 (by decide) (by decide)).trans h3, h4⟩
  · have e1 : (k.lb ++ [((.d (.sl 0 false []), 0, none) : Lnd)]).length = k.lb.length + 1 := by simp
    have e2 : lbC (k.lb ++ [(.d (.sl 0 false []), 0, none)]) = lbC k.lb ++ [.d (.sl 0 false []), .d (.i .i64 0)] := by rw [lbC_app]; rfl
    show LR _ 2 v' (k.lb ++ [((.d (.sl 0 false []), 0, none) : Lnd)]).length (lbC (k.lb ++ [(.d (.sl 0 false []), 0, none)])) j'
    rw [e1, e2]
    refine hD.row fun r e => row_put_ne fun e2 => ?_
    rcases hj with e3 | ⟨i, e3, e4, _⟩
    · exact hpD (by rw [← e3, e, e2])
    · rw [e] at e3; obtain rfl := Option.some.inj e3; omega
  · rcases List.mem_append.1 hx with hx | hx
    · rcases h.B x hx with h1 | ⟨q, c, h1, h2, h3, h4⟩
      · exact .inl h1
      · obtain ⟨n, hn, _⟩ := lb_lab (k := k) (p := p) hx h1
        exact .inr ⟨q, c, h1, h2, (hrow (n + 3) q hn (by omega) (by omega)).trans h3, h4⟩
    · obtain rfl := List.mem_singleton.1 hx
      exact .inl ⟨rfl, rfl⟩
  · intro a b i ha hb
    have new : ∀ b, b ≠ 2 → k.lab p b = some i → j' = some i → False := fun b hb2 hb1 hj' => by
      rcases hj with e | ⟨i', e, e2, _⟩
      · exact hb2 (h.sep b 2 i hb1 (by show k.jD = some i; rw [← e, hj']))
      · rw [hj'] at e; obtain rfl := Option.some.inj e
        have := lab_lt h hb1; omega
    rcases key a i ha with ⟨a1, a2⟩ | ⟨a1, a2⟩ <;> rcases key b i hb with ⟨b1, b2⟩ | ⟨b1, b2⟩
    · exact h.sep a b i a2 b2
    · exact (new a a1 a2 b2).elim
    · exact (new b b1 b2 a2).elim
    · omega
  · have g1 : Kr s s1 (fun r => ∃ a, k.lab p a = some r) := g.mono (fun i _ e => ⟨2, e⟩)
    exact g1.trans (.put ⟨0, rfl⟩)
  · intro a r e
    rcases key a r e with ⟨_, a2⟩ | ⟨_, a2⟩
    · exact .inl ⟨a, a2⟩
    · rcases hj with e3 | ⟨i, e3, e4, _⟩
      · exact .inl ⟨2, by show k.jD = some r; rw [← e3, a2]⟩
      · rw [a2] at e3; obtain rfl := Option.some.inj e3; exact .inr e4
/-- The lender number i, told anew. -/
theorem RkI.setB (h : RkI s p k) {i jd r : Nat} {B : V} {N N' : Int} {j : Option Nat} {c : List V} (hx : k.lb[i]? = some (B, N, j)) (hjd : k.jD = some jd) {tail : List V} (hrow : s.row jd = some (lbC k.lb ++ tail)) (hrow1 : s1.row jd = some (lbC (k.lb.take i) ++ .rsl 1 r 0 c.length c.length :: .d (.i .i64 N') :: (lbC (k.lb.drop (i + 1)) ++ tail)))
    (hbuf : s1.row r = some c) (hcl : c.length ≤ 274877906944) (hr : j = some r ∨ s.heap.length ≤ r) (g : Kr s s1 (fun z => z = jd ∨ j = some z)) :
    RkI s1 p { k with lb := k.lb.set i (.rsl 1 r 0 c.length c.length, N', some r) } ∧ RkF s s1 p k { k with lb := k.lb.set i (.rsl 1 r 0 c.length c.length, N', some r) } := by
  have hil := (List.getElem?_eq_some_iff.1 hx).1
  have hjl : ∀ z, j = some z → k.lab p (i + 3) = some z := fun z e => by simp [Rk.lab, hx, e]
  have hkeep : ∀ a q, k.lab p a = some q → a ≠ 2 → a ≠ i + 3 → s1.row q = s.row q := fun a q e hn hn2 => g.keep q (lab_lt h e) fun e2 => by
    rcases e2 with rfl | e2
    · exact hn (h.sep a 2 q e hjd)
    · exact hn2 (h.sep a (i + 3) q e (hjl q e2))
  have key : ∀ a q, Rk.lab p { k with lb := k.lb.set i (.rsl 1 r 0 c.length c.length, N', some r) } a = some q → (a ≠ i + 3 ∧ k.lab p a = some q) ∨ (a = i + 3 ∧ q = r) := by
    intro a q e
    match a, e with
    | 0, e => exact .inl ⟨by omega, e⟩
    | 1, e => exact .inl ⟨by omega, e⟩
    | 2, e => exact .inl ⟨by omega, e⟩
    | n + 3, e =>
      simp only [Rk.lab] at e ⊢
      rw [List.getElem?_set] at e
      by_cases hn : i = n
      · subst hn
        rw [if_pos rfl, if_pos hil] at e
        exact .inr ⟨rfl, (Option.some.inj e).symm⟩
      · rw [if_neg hn] at e
        exact .inl ⟨by omega, e⟩
  have hD := h.Dr
  obtain ⟨hDl, ⟨e, _⟩ | ⟨j0, cap, tail0, e, hv, hnc, hrow0, htl⟩⟩ := hD
  · rw [hjd] at e; cases e
  rw [hjd] at e
  obtain rfl := Option.some.inj e
  have htail : tail0 = tail := List.append_cancel_left (Option.some.inj (hrow0.symm.trans hrow))
  subst htail
  refine ⟨⟨g.floor.trans h.fl, (hkeep 0 p rfl (by omega) (by omega)).trans h.row, ?_, ⟨by rw [lbC_len], .inr ⟨jd, cap, tail0, hjd, by rw [List.length_set]; exact hv, by rw [List.length_set]; exact hnc, ?_, by rw [List.length_set]; exact htl⟩⟩, fun x hx' => ?_, ?_, h.small.1, by rw [List.length_set]; exact h.small.2⟩, ?_, ?_⟩
  · rcases h.Lr with h1 | ⟨q, c, h1, h2, h3, h4⟩
    · exact .inl h1
    · exact .inr ⟨q, c, h1, h2, (hkeep 1 q h1 (by decide) (by omega)).trans h3, h4⟩
  · rw [hrow1, lbC_set hil]
    simp
  · obtain ⟨n, hn⟩ := List.mem_iff_getElem?.1 hx'
    rw [List.getElem?_set] at hn
    by_cases hni : i = n
    · subst hni
      rw [if_pos rfl, if_pos hil] at hn
      obtain rfl := Option.some.inj hn
      exact .inr ⟨r, c, rfl, rfl, hbuf, hcl⟩
    · rw [if_neg hni] at hn
      rcases h.B x (List.mem_of_getElem? hn) with h1 | ⟨q, c, h1, h2, h3, h4⟩
      · exact .inl h1
      · exact .inr ⟨q, c, h1, h2, (hkeep (n + 3) q (by simp [Rk.lab, hn, h1]) (by omega) (by omega)).trans h3, h4⟩
  · intro a b q ha hb
    have new : ∀ b, b ≠ i + 3 → k.lab p b = some r → False := fun b hb2 hb1 => by
      rcases hr with e | e
      · exact hb2 (h.sep b (i + 3) r hb1 (hjl r e))
      · have := lab_lt h hb1; omega
    rcases key a q ha with ⟨a1, a2⟩ | ⟨a1, a2⟩ <;> rcases key b q hb with ⟨b1, b2⟩ | ⟨b1, b2⟩
    · exact h.sep a b q a2 b2
    · exact (new a a1 (by rw [← b2]; exact a2)).elim
    · exact (new b b1 (by rw [← a2]; exact b2)).elim
    · omega
  · exact g.mono (fun z _ e => by
      rcases e with rfl | e
      · exact ⟨2, hjd⟩
      · exact ⟨i + 3, hjl z e⟩)
  · intro a q e
    rcases key a q e with ⟨_, a2⟩ | ⟨_, a2⟩
    · exact .inl ⟨a, a2⟩
    · subst a2
      rcases hr with e | e
      · exact .inl ⟨i + 3, hjl _ e⟩
      · exact .inr e
end
end Go.Sh
