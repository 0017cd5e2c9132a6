/- Lists of symbols: what is grown. -/
import Derived.Test.YtnemobbnlacmjaaShLsyC
set_option linter.unusedVariables false
set_option linter.unusedSimpArgs false
namespace Go.Sh
abbrev zero6 : List D := [.i .i64 0, .i .i64 0, .i .i64 0, .i .i64 0, .i .i64 0, .i .i64 0]
theorem vwV_lit6 (st : St) (X : List V) (h : X.length = 6) : vwV 6 (st.push (.row X)) (.rsl 6 st.heap.length 0 1 1) = some (1, X) := by
  have : X.take 6 = X := List.take_of_length_le (by omega)
  simp [vwV, h, this]
/-- A list that grew out of a label's: in the label's row still, or in one of its own (label 51). -/
def GrwS (N : Nat) (s : St) (p : Nat) (R : List V) (lab : Nat → Option Nat) (fs : Fs) (pv : List (V × List D)) (al : List (Nat × List V)) (a n : Nat) (g : V) (L : List D) : Prop :=
  (Hp 6 s p R lab fs pv al ∧ LR s 6 g n (ofDs L) (lab a)) ∨ ∃ j, (∀ r, j = some r → N ≤ r) ∧ Hp 6 s p R (upd lab 51 j) (updF fs 51 (some (6, n, g, ofDs L))) pv al
section
variable {p : Nat} {lab : Nat → Option Nat} {fs : Fs} {pv : List (V × List D)} {al : List (Nat × List V)}
theorem GrwS.app {N : Nat} {s : St} {R : List V} {a n n0 m : Nat} {g f x : V} {M E ys : List D} (h : GrwS N s p R lab fs pv al a n g (M ++ E)) (ha : a ≠ 0) (ha1 : a ≠ 51) (hf : fs a = some (6, n0, f, ofDs M)) (hl : lab 51 = none) (hx : vwV 6 (s.push (.row (ofDs ys))) x = some (m, ofDs ys)) (hy : ys.length = m * 6) (hn : n + m ≤ 2932031007402) (hn2 : n + m ≤ 140737488355328) (hyk : ∀ d ∈ ys, KI d) (hN : N ≤ s.heap.length) {Q : V → St → Prop}
    (hQ : ∀ s' g', GrwS N s' p R lab fs pv al a (n + m) g' (M ++ E ++ ys) → Gr (s.push (.row (ofDs ys))) s' (fun r => lab a = some r ∨ N ≤ r) (fun x => ∃ d, x = .d d ∧ KI d) → Q g' s') : appW 6 48 zero6 (s.push (.row (ofDs ys))) g x Q := by
  have hkk : ∀ x, x ∈ ofDs ys → ∃ d, x = V.d d ∧ KI d := fun x hx => by
    simp only [ofDs, List.mem_map] at hx
    obtain ⟨d, hd, rfl⟩ := hx
    exact ⟨d, rfl, hyk d hd⟩
  rcases h with ⟨h, hg⟩ | ⟨j, hj, h⟩
  · have hg' : LR (s.push (.row (ofDs ys))) 6 g n (ofDs M ++ ofDs E) (lab a) := by
      have := hg.gr (A := fun _ => False) (P := fun _ => True) (.push (.row (ofDs ys))) fun _ _ h => h
      simpa [ofDs] using this
    refine (h.push _).fork ha (b := 51) (by omega) hf hg' hx (by rw [ofDs_len]; exact hy) rfl (by omega) hn2 hl ?_ ?_
    · intro s' g' h' hg'' gr
      refine hQ s' g' (.inl ⟨h', by simpa [ofDs] using hg''⟩) (gr.mono (fun r hr e => .inl e) fun x hx => hkk x hx)
    · intro s' g' j' h' gr nw
      refine hQ s' g' (.inr ⟨j', fun r hr => ?_, by simpa [ofDs] using h'⟩) (gr.mono (fun r hr e => .inl e) fun x hx => hkk x hx)
      rcases nw with e | ⟨i, e, hi, _⟩
      · rw [e] at hr; cases hr
      · rw [e] at hr
        obtain rfl := Option.some.inj hr
        simp at hi
        omega
  · refine (h.push _).app (a := 51) (by omega) updF_eq hx (by rw [ofDs_len]; exact hy) rfl (by omega) hn2 ?_
    intro s' g' j' h' gr nw
    rw [updF_updF, upd_upd] at h'
    refine hQ s' g' (.inr ⟨j', fun r hr => ?_, by simpa [ofDs] using h'⟩) (gr.mono (fun r hr e => ?_) fun x hx => hkk x hx)
    · rcases nw with e | ⟨i, e, hi, _⟩
      · rw [upd_eq] at e
        exact hj r (by rw [← e]; exact hr)
      · rw [e] at hr
        obtain rfl := Option.some.inj hr
        simp at hi
        omega
    · rw [upd_eq] at e
      exact .inr (hj r e)
end
theorem GrwS.out {N : Nat} {s : St} {p : Nat} {R : List V} {lab : Nat → Option Nat} {fs : Fs} {pv : List (V × List D)} {al : List (Nat × List V)} {a n : Nat} {g : V} {L : List D} (h : GrwS N s p R lab fs pv al a n g L) (hl : lab 51 = none) (hf : fs 51 = none) :
    ∃ pv', Hp 6 s p R lab fs pv' al ∧ (∀ x ∈ pv, x ∈ pv') ∧ ((g, L) ∈ pv' ∨ LR s 6 g n (ofDs L) (lab a)) ∧ (g.ok1 = true ∧ g.cs = [g]) := by
  rcases h with ⟨h, hg⟩ | ⟨j, _, h⟩
  · exact ⟨pv, h, fun _ h => h, .inr hg, (hg.lst).1.one⟩
  · have h1 := h.done (a := 51) (by omega) updF_eq
    rw [upd_upd, upd_off hl, updF_updF, updF_off hf] at h1
    exact ⟨_, h1, fun x hx => List.mem_cons_of_mem _ hx, .inl List.mem_cons_self, h.one updF_eq⟩
/-- What may have grown in a label's row: what it holds is of a kind. -/
theorem Semi.keep {SZ : Nat} {K : D → Prop} {s s' : St} {lab : Nat → Option Nat} {a m : Nat} {g : V} {A : Nat → Prop} {P : V → Prop} (h : Semi SZ K s lab a g m) (gr : Gr s s' A P) (hA : ∀ r, r < s.heap.length → A r → ∃ c, lab c = some r ∧ lab a ≠ some r) : Semi SZ K s' lab a g m := by
  obtain ⟨⟨L, h1, h2, h3⟩, h4⟩ := h
  refine ⟨⟨L, h1.gr gr fun r hr hAr => ?_, h2, h3⟩, h4⟩
  obtain ⟨c, hc, hne⟩ := hA r (h1.lt hr) hAr
  rcases h4 with e | e
  · exact hne (by rw [← e, hr])
  · exact e r hr c hc
theorem Semi.of {SZ : Nat} {K : D → Prop} {s : St} {p : Nat} {R : List V} {lab : Nat → Option Nat} {fs : Fs} {pv : List (V × List D)} {al : List (Nat × List V)} {a n : Nat} {g : V} {L : List D} (h : Hp SZ s p R lab fs pv al) (hg : (g, L) ∈ pv ∨ LR s SZ g n (ofDs L) (lab a)) (hl : L.length = n * SZ) (hk : ∀ d ∈ L, K d) : Semi SZ K s lab a g n := by
  rcases hg with e | e
  · exact ⟨⟨L, (h.pv _ e).1, hl, hk⟩, .inr (h.pv _ e).2⟩
  · exact ⟨⟨L, (e.lst).1, hl, hk⟩, .inl (e.lst).2.1⟩
theorem Semi.na {SZ : Nat} {s : St} {p : Nat} {R : List V} {lab : Nat → Option Nat} {fs : Fs} {pv : List (V × List D)} {al : List (Nat × List V)} {a n : Nat} {g : V} {L : List D} (h : Hp SZ s p R lab fs pv al) (hg : (g, L) ∈ pv ∨ LR s SZ g n (ofDs L) (lab a)) : ∀ x ∈ al, foot g ≠ some x.1 := by
  intro x hx e
  rcases hg with h1 | h1
  · exact (h.al x hx).2.2 _ h1 e
  · rw [(h1.lst).2.1] at e
    exact (h.al x hx).2.1 a e
section
variable {p : Nat} {lab : Nat → Option Nat} {fs : Fs} {pv : List (V × List D)} {al : List (Nat × List V)}
/-- The same, where nothing new was laid ahead. -/
theorem GrwS.app0 {N : Nat} {s : St} {R : List V} {a n n0 m : Nat} {g f x : V} {M E ys : List D} (h : GrwS N s p R lab fs pv al a n g (M ++ E)) (ha : a ≠ 0) (ha1 : a ≠ 51) (hf : fs a = some (6, n0, f, ofDs M)) (hl : lab 51 = none) (hx : vwV 6 s x = some (m, ofDs ys)) (hy : ys.length = m * 6) (hn : n + m ≤ 2932031007402) (hyk : ∀ d ∈ ys, KI d) (hN : N ≤ s.heap.length) {Q : V → St → Prop}
    (hQ : ∀ s' g', GrwS N s' p R lab fs pv al a (n + m) g' (M ++ E ++ ys) → Gr s s' (fun r => lab a = some r ∨ N ≤ r) (fun x => ∃ d, x = .d d ∧ KI d) → Q g' s') : appW 6 48 zero6 s g x Q := by
  have hkk : ∀ x, x ∈ ofDs ys → ∃ d, x = V.d d ∧ KI d := fun x hx => by
    simp only [ofDs, List.mem_map] at hx
    obtain ⟨d, hd, rfl⟩ := hx
    exact ⟨d, rfl, hyk d hd⟩
  rcases h with ⟨h, hg⟩ | ⟨j, hj, h⟩
  · have hg' : LR s 6 g n (ofDs M ++ ofDs E) (lab a) := by simpa [ofDs] using hg
    refine h.fork ha (b := 51) (by omega) hf hg' hx (by rw [ofDs_len]; exact hy) rfl (by omega) (by omega) hl ?_ ?_
    · intro s' g' h' hg'' gr
      exact hQ s' g' (.inl ⟨h', by simpa [ofDs] using hg''⟩) (gr.mono (fun r hr e => .inl e) fun x hx => hkk x hx)
    · intro s' g' j' h' gr nw
      refine hQ s' g' (.inr ⟨j', fun r hr => ?_, by simpa [ofDs] using h'⟩) (gr.mono (fun r hr e => .inl e) fun x hx => hkk x hx)
      rcases nw with e | ⟨i, e, hi, _⟩
      · rw [e] at hr; cases hr
      · rw [e] at hr
        obtain rfl := Option.some.inj hr
        omega
  · refine h.app (a := 51) (by omega) updF_eq hx (by rw [ofDs_len]; exact hy) rfl (by omega) (by omega) ?_
    intro s' g' j' h' gr nw
    rw [updF_updF, upd_upd] at h'
    refine hQ s' g' (.inr ⟨j', fun r hr => ?_, by simpa [ofDs] using h'⟩) (gr.mono (fun r hr e => ?_) fun x hx => hkk x hx)
    · rcases nw with e | ⟨i, e, hi, _⟩
      · rw [upd_eq] at e
        exact hj r (by rw [← e]; exact hr)
      · rw [e] at hr
        obtain rfl := Option.some.inj hr
        omega
    · rw [upd_eq] at e
      exact .inr (hj r e)
/-- A copy, in a row of its own. -/
theorem Hp.copy6 {s : St} {R : List V} (h : Hp 6 s p R lab fs pv al) {x : V} {L : List D} (hx : Lst s 6 x L) (hl : L.length ≤ 17592186044412) (hla : lab 53 = none) (hfa : fs 53 = none) {Q : V → St → Prop}
    (hQ : ∀ s' c, Hp 6 s' p R lab fs ((c, L) :: pv) al → Gr s s' (fun _ => False) (fun _ => True) → (c.ok1 = true ∧ c.cs = [c]) → Q c s') : appW 6 48 zero6 (s.push (.row [])) (.rsl 6 s.heap.length 0 0 0) x Q := by
  have h0 := h.own (a := 53) (by omega) hla (sz := 6) (n := 0) (m := 0) (c := []) (t := []) (by simp) (by simp) (Nat.le_refl _)
  rw [List.append_nil] at h0
  obtain ⟨n, hv, hn, _⟩ := (hx.gr (A := fun _ => False) (P := fun _ => True) (.push (.row [])) fun _ _ h => h).vw
  refine h0.app (by omega) updF_eq hv (by rw [ofDs_len]; exact hn) rfl (by omega) (by omega) ?_
  intro s1 v1 j1 h1 g1 n1
  rw [updF_updF, upd_upd, Nat.zero_add, List.nil_append] at h1
  have hone := h1.one (a := 53) updF_eq
  have h2 := h1.done (a := 53) (by omega) updF_eq
  rw [upd_upd, updF_updF, upd_off hla, updF_off hfa] at h2
  refine hQ s1 v1 h2 ?_ hone
  have := (Gr.push (A := fun r => s.heap.length ≤ r) (P := fun _ => True) (st := s) (.row [])).trans (g1.mono (A' := fun r => s.heap.length ≤ r) (fun r hr e => by
    rw [upd_eq] at e
    obtain rfl := Option.some.inj e
    exact Nat.le_refl _) fun _ _ => trivial)
  exact this.mono (fun r hr e => by omega) fun _ h => h
/-- A list of its own grows beside what grows out of a label's. -/
theorem GrwS.appB {N : Nat} {s : St} {R : List V} {a n n1 m : Nat} {g w x : V} {j : Option Nat} {C : List V} {L ys : List D} (h : GrwS N s p R (upd lab 52 j) (updF fs 52 (some (6, n1, w, C))) pv al a n g L) (ha : a ≠ 52) (hx : vwV 6 s x = some (m, ofDs ys)) (hy : ys.length = m * 6) (hn : n1 + m ≤ 2932031007402) (hj : ∀ r, j = some r → N ≤ r) (hN : N ≤ s.heap.length) {Q : V → St → Prop}
    (hQ : ∀ s' w' j', GrwS N s' p R (upd lab 52 j') (updF fs 52 (some (6, n1 + m, w', C ++ ofDs ys))) pv al a n g L → Gr s s' (fun r => N ≤ r) (· ∈ ofDs ys) → (∀ r, j' = some r → N ≤ r) → Q w' s') : appW 6 48 zero6 s w x Q := by
  have hj' : ∀ {s' : St} {j' : Option Nat} {l : Option Nat}, l = j → NewOr s s' l j' → ∀ r, j' = some r → N ≤ r := fun hl nw r hr => by
    subst hl
    rcases nw with e | ⟨i, e, hi, _⟩
    · exact hj r (by rw [← e]; exact hr)
    · rw [e] at hr
      obtain rfl := Option.some.inj hr
      omega
  rcases h with ⟨h, hg⟩ | ⟨k, hk, h⟩
  · refine h.app (a := 52) (by omega) updF_eq hx (by rw [ofDs_len]; exact hy) rfl (by omega) (by omega) ?_
    intro s' w' j' h' gr nw
    have hg' := hg.gr gr fun r hr e => ha (h.labs.sep a 52 r hr e)
    rw [updF_updF, upd_upd] at h'
    rw [upd_eq] at nw
    refine hQ s' w' j' (.inl ⟨h', by rw [upd_ne ha] at hg' ⊢; exact hg'⟩) (gr.mono (fun r hr e => ?_) fun _ h => h) (hj' rfl nw)
    rw [upd_eq] at e
    exact hj r e
  · refine h.app (a := 52) (by omega) (by rw [updF_ne (by omega), updF_eq]) hx (by rw [ofDs_len]; exact hy) rfl (by omega) (by omega) ?_
    intro s' w' j' h' gr nw
    rw [upd_comm (a := 51) (b := 52) (by omega), upd_upd, updF_comm (a := 51) (b := 52) (by omega), updF_updF] at h'
    rw [upd_ne (by omega), upd_eq] at nw
    refine hQ s' w' j' (.inr ⟨k, hk, h'⟩) (gr.mono (fun r hr e => ?_) fun _ h => h) (hj' rfl nw)
    rw [upd_ne (by omega), upd_eq] at e
    exact hj r e
end
end Go.Sh
