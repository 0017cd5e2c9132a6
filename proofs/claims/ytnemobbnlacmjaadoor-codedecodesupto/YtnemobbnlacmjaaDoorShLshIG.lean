/- Shelves of instructions: the lists are grown. -/
import Derived.Test.YtnemobbnlacmjaaDoorShLshIF
set_option linter.unusedVariables false
set_option linter.unusedSimpArgs false
namespace Go.Sh
theorem upd_off {f : Nat → Option Nat} {a : Nat} (h : f a = none) : upd f a none = f := by rw [← h, upd_self]
theorem updF_off {α : Type} {f : Nat → α} {a : Nat} {x : α} (h : f a = x) : updF f a x = f := by rw [← h, updF_self]
/-- What has grown: it stays, or it lies in its label's row. -/
theorem GrwI.out {N : Nat} {s : St} {p : Nat} {R : List V} {lab : Nat → Option Nat} {fs : Fs} {pv : List (V × List D)} {al : List (Nat × List V)} {a n : Nat} {g : V} {L : List D} (h : GrwI N s p R lab fs pv al a n g L) (hl : lab 51 = none) (hf : fs 51 = none) :
    ∃ pv', Hp 5 s p R lab fs pv' al ∧ (∀ x ∈ pv, x ∈ pv') ∧ ((g, L) ∈ pv' ∨ LR s 5 g n (ofDs L) (lab a)) ∧ (g.ok1 = true ∧ g.cs = [g]) := by
  rcases h with ⟨h, hg⟩ | ⟨j, _, h⟩
  · exact ⟨pv, h, fun _ h => h, .inr hg, (hg.lst).1.one⟩
  · have h1 := h.done (a := 51) (by omega) updF_eq
    rw [upd_upd, upd_off hl, updF_updF, updF_off hf] at h1
    exact ⟨_, h1, fun x hx => List.mem_cons_of_mem _ hx, .inl List.mem_cons_self, h.one updF_eq⟩
section
variable {pr : Prog} (hp : Sub shiFns pr) {st : St} {p : Nat} {b : Shb} {al : List (Nat × List V)}
include hp
theorem loopI2 {mk : Int} {K W : V} {kv wv : List V} {lab : Nat → Option Nat} {fs : Fs} {pv : List (V × List D)} (h : PW st p b b.fr.length 0 mk K W kv wv lab fs pv al) (hs : b.fr.length ≤ 3 ∧ b.kv.length ≤ 900000000) {own : Nat} (how : own = b.kv.length + b.fr.length) {Q : Out → Prop}
    (hQ : ∀ e s mk K W kv wv lab fs pv, e.get 0 = some (.ptr p 0) → e.get 2 = some b.F → e.get 5 = some (.d (.i .i64 own)) → PW s p b b.fr.length b.fr.length mk K W kv wv lab fs pv al → Q (.exit 2, e, s)) : CodeW pr (.loop [0, 2, 5, 6] false F218_spindlelaw3_Shelf_write_b1) [(0, .ptr p 0), (2, b.F), (5, .d (.i .i64 own)), (6, .d (.i .i64 0))] st Q := by
  refine loopW_j wSh (fun n e s => ∃ i mk K W kv wv lab fs pv, i ≤ b.fr.length ∧ n = b.fr.length - i ∧ e = [(0, .ptr p 0), (2, b.F), (5, .d (.i .i64 own)), (6, .d (.i .i64 i))] ∧ PW s p b b.fr.length i mk K W kv wv lab fs pv al) ?_ (n := b.fr.length) ⟨0, mk, K, W, kv, wv, lab, fs, pv, Nat.zero_le _, rfl, by simp, h⟩
  rintro n e s ⟨i, mk, K, W, kv, wv, lab, fs, pv, hi, rfl, rfl, h⟩
  have hlF := h.hp.len h.f1
  obtain ⟨hk1, hk2⟩ := h.klen
  rcases Nat.lt_or_ge i b.fr.length with hlt | hge
  rotate_left
  · have : i = b.fr.length := by omega
    subst this
    simp [F218_spindlelaw3_Shelf_write_b1, wSh, hlF]
    exact hQ _ _ mk K W kv wv lab fs pv (by simp) (by simp) (by simp) h
  obtain ⟨x, hx⟩ : ∃ x, b.fr[i]? = some x := ⟨_, List.getElem?_eq_getElem hlt⟩
  obtain ⟨M, n, hfi, hn, hMk, hMi⟩ := h.fr i x hx
  obtain ⟨hki, w, hwi, hwM⟩ := hMi hlt
  have hMl : M.length = n * 5 := ((h.hp.lr _ _ hfi).lst).2.2
  have w1 : IntKind.wrap .i64 ((i : Int) + 1) = i + 1 := wrap_i64 (by omega) (by omega)
  simp [F218_spindlelaw3_Shelf_write_b1, wSh, hlF, hlt]
  refine callW_someI hp h.hp 16 (by omega) (a := 50) (by omega) (h.none 50 (by omega)).1 ?_
  intro s1 mk1 E0 j E h1 hEk hEl g1 hj
  obtain ⟨jF1, cF1, hjF1, b1, b2, b3, b4⟩ := h1.get (a := 1) (by rw [updF_ne (by omega)]; exact h.f1) i (x := x.1) (by simp [hx]) (k := .i64)
  simp [F218_spindlelaw3_Shelf_write_b1, wSh, b1, b2, b3, b4]
  refine growFew h1 (a := i + 6) (by omega) (by omega) (by omega) (by rw [updF_ne (by omega)]; exact hfi) updF_eq (by rw [upd_ne (by omega)]; exact (h.none 51 (by omega)).1) hn (by omega) hEk ?_
  intro e2 s2 g q0 q2 q5 q6 q7 q8 hg gr2
  obtain ⟨pv2, h2, hsub2, hgo, hg1⟩ := hg.out (by rw [upd_ne (by omega)]; exact (h.none 51 (by omega)).1) (by rw [updF_ne (by omega)]; exact (h.none 51 (by omega)).2)
  have hrow2 := h2.row
  obtain ⟨jW, cW, hjW, c1, c2, c3, c4⟩ := h2.get (a := 5) (by rw [updF_ne (by omega)]; exact h.f5) (b.kv.length + i) hwi (k := .i64)
  have w2 : IntKind.wrap .i64 ((own : Int) - b.fr.length) = b.kv.length := by rw [wrap_i64 (by omega) (by omega)]; omega
  have w3 : IntKind.wrap .i64 ((b.kv.length : Int) + i) = ((b.kv.length + i : Nat) : Int) := by rw [wrap_i64 (by omega) (by omega)]; omega
  obtain ⟨ix, hix⟩ : ∃ ix, ix = b.kv.length + i := ⟨_, rfl⟩
  rw [← hix] at c1 c3 c4 w3
  simp [q0, q2, q5, q6, q7, q8, wSh, hrow2, hlF, w2, w3, c1, c2, c3, c4]
  have hMp : Lst s2 5 w M := (h2.pv (w, M) (hsub2 _ hwM)).1
  refine callW_copyRowI hp h2 hMp (by omega) (a := 52) (by omega) (by rw [upd_ne (by omega)]; exact (h.none 52 (by omega)).1) ?_
  intro s3 v3 j3 n3 h3 g3 hn3 hj3
  have hlE := h3.lr 50 (5, 16, E0, ofDs E) (by rw [updF_ne (by omega), updF_eq])
  have hvE : vwV 5 s3 E0 = some (16, ofDs E) := by
    obtain ⟨n', e1, e2, _⟩ := (hlE.lst).1.vw
    have : n' = 16 := by omega
    rw [this] at e1
    exact e1
  simp [wSh]
  refine h3.app (a := 52) (by omega) updF_eq hvE (by rw [ofDs_len]; exact hEl) rfl (by omega) (by omega) ?_
  intro s4 v4 j4 h4 g4 n4
  have hv41 := h4.one (a := 52) updF_eq
  have hcat : ofDs M ++ ofDs E = ofDs (M ++ E) := by simp [ofDs]
  rw [updF_updF, upd_upd, hcat] at h4
  have h5 := h4.done (a := 52) (by omega) updF_eq
  rw [upd_upd, updF_updF, upd_off (by rw [upd_ne (by omega)]; exact (h.none 52 (by omega)).1), updF_off (by rw [updF_ne (by omega)]; exact (h.none 52 (by omega)).2)] at h5
  have h6 := h5.drop (a := 50) (by omega)
  rw [upd_upd, updF_updF, upd_off (h.none 50 (by omega)).1, updF_off (h.none 50 (by omega)).2] at h6
  have L3 := g3.len
  have hs24 : Gr s2 s4 (fun r => s2.heap.length ≤ r) (fun _ => True) := (g3.mono (fun _ _ e => e.elim) fun _ _ => trivial).trans (g4.mono (fun r hr e => by
    rw [upd_eq] at e
    exact hj3 r e) fun _ _ => trivial)
  have hgo4 : (g, M ++ E) ∈ pv2 ∨ LR s4 5 g (n + 16) (ofDs (M ++ E)) (lab (i + 6)) := hgo.imp id fun hl => by
    rw [upd_ne (by omega)] at hl
    exact hl.gr hs24 fun r hr e => by have := hl.lt hr; omega
  simp [wSh]
  refine callW_keepI hp h6 h.f4 h.f5 hg1 hv41 (by omega) ?_
  intro s5 K' W' j6 j7 h7 g7
  simp [w1]
  have hkeep : ∀ t, t ≠ i → ∀ g n c, LR s 5 g n c (lab (t + 6)) → LR s5 5 g n c (lab (t + 6)) := by
    intro t ht g n c hl
    have hsep : ∀ a, a ≠ t + 6 → ∀ r, lab (t + 6) = some r → lab a ≠ some r := fun a ha r hr e => ha (h.hp.labs.sep a (t + 6) r e hr)
    have l1 := hl.gr g1 fun r hr e => hsep 0 (by omega) r hr (by rw [e]; exact h.hp.p0)
    have l2 := l1.gr gr2 fun r hr e => hsep (i + 6) (by omega) r hr (by rw [upd_ne (by omega)] at e; exact e)
    have l3 := l2.gr hs24 fun r hr e => by have := l2.lt hr; omega
    exact l3.gr g7 fun r hr e => by
      rcases e with e | e | e
      · exact hsep 0 (by omega) r hr (by rw [e]; exact h.hp.p0)
      · exact hsep 4 (by omega) r hr e
      · exact hsep 5 (by omega) r hr e
  refine ⟨b.fr.length - (i + 1), by omega, i + 1, by omega, rfl, rfl, mk1, K', W', kv ++ [g], wv ++ [v4], _, _, _, h7, ?_, ?_, ?_, ?_, ?_, ?_, ?_⟩
  · rw [updF_ne (by omega), updF_ne (by omega)]; exact h.f1
  · rw [updF_ne (by omega), updF_eq, show b.kv.length + b.fr.length + i + 1 = b.kv.length + b.fr.length + (i + 1) by omega]
  · rw [updF_eq, show b.kv.length + b.fr.length + i + 1 = b.kv.length + b.fr.length + (i + 1) by omega]
  · intro t k w ht e1 e2
    exact (h.old t k w ht (get_app_lt e1 (by omega)) (get_app_lt e2 (by omega))).mono fun x hx => List.mem_cons_of_mem _ (hsub2 x hx)
  · intro t y hy
    have htl := (List.getElem?_eq_some_iff.1 hy).1
    obtain ⟨M', n', f1, f2, f3, f4⟩ := h.fr t y hy
    refine ⟨M', n', by rw [updF_ne (by omega), updF_ne (by omega)]; exact f1, f2, f3, fun ht => ?_⟩
    obtain ⟨f5, w', f6, f7⟩ := f4 ht
    exact ⟨get_app f5, w', get_app f6, List.mem_cons_of_mem _ (hsub2 _ f7)⟩
  · intro t ht
    by_cases hti : t = i
    · subst hti
      refine ⟨g, v4, M ++ E, get_last (by omega), get_last (by omega), List.mem_cons_self, ?_, by rw [List.length_append]; omega, ?_⟩
      · intro d hd
        rcases List.mem_append.1 hd with hd | hd
        · exact hMk d hd
        · exact hEk d hd
      · rcases hgo4 with e | e
        · exact .inl (List.mem_cons_of_mem _ e)
        · right
          refine ⟨n + 16, ?_⟩
          rw [upd_ne (by omega), upd_ne (by omega)]
          refine e.gr g7 fun r hr e' => ?_
          have hsep : ∀ a, a ≠ t + 6 → lab a ≠ some r := fun a ha e => ha (h.hp.labs.sep a (t + 6) r e hr)
          rcases e' with e' | e' | e'
          · exact hsep 0 (by omega) (by rw [e']; exact h.hp.p0)
          · exact hsep 4 (by omega) e'
          · exact hsep 5 (by omega) e'
    · obtain ⟨g', w', L', f1, f2, f3, f4, f5, f6⟩ := h.few t (by omega)
      refine ⟨g', w', L', get_app f1, get_app f2, List.mem_cons_of_mem _ (hsub2 _ f3), f4, f5, ?_⟩
      rcases f6 with e | ⟨n', e⟩
      · exact .inl (List.mem_cons_of_mem _ (hsub2 _ e))
      · right
        refine ⟨n', ?_⟩
        rw [upd_ne (by omega), upd_ne (by omega)]
        exact hkeep t hti g' n' _ e
  · intro a ha
    rw [upd_ne (by omega), upd_ne (by omega), updF_ne (by omega), updF_ne (by omega)]
    exact h.none a ha
end
end Go.Sh
