/- Shelves of instructions: the lists are grown by many; a shelf is written over. -/
import Derived.Test.YtnemobbnlacmjaaDoorShLshIG
set_option linter.unusedVariables false
set_option linter.unusedSimpArgs false
namespace Go.Sh
/-- A list is cut. -/
theorem Hp.trunc {SZ : Nat} {s : St} {p : Nat} {R : List V} {lab : Nat → Option Nat} {fs : Fs} {pv : List (V × List D)} {al : List (Nat × List V)} (h : Hp SZ s p R lab fs pv al) {a n m : Nat} (ha : a ≠ 0) {v : V} {c : List V} (hf : fs a = some (1, n, v, c)) (hm : m ≤ n) :
    ∃ v', slcV 1 v none (some (.d (.i .i64 (m : Int)))) none = some v' ∧ Hp SZ s p R lab (updF fs a (some (1, m, v', c.take m))) pv al := by
  obtain ⟨h0, hl⟩ := h.lr a _ hf
  simp only at h0 hl
  have key : ∀ v', LR s 1 v' m (c.take m) (lab a) → Hp SZ s p R lab (updF fs a (some (1, m, v', c.take m))) pv al := fun v' hl' => by
    have := h.at ha (.refl s (fun r => lab a = some r) (fun _ => True)) hl' (.inl rfl)
    rwa [upd_self] at this
  have hlen : (c.take m).length = m * 1 := by rw [List.length_take]; omega
  rcases hl with ⟨h1, rfl, rfl⟩ | ⟨j0, cap, tail, h1, rfl, hc, hrow, ht⟩
  · obtain rfl : m = 0 := by omega
    exact ⟨_, rfl, key _ ⟨hlen, .inl ⟨h1, rfl, rfl⟩⟩⟩
  · have b1 : (0 : Int) ≤ m := by omega
    have hmc : (m : Int) ≤ cap := by omega
    refine ⟨.rsl 1 j0 0 m cap, ?_, key _ ⟨hlen, .inr ⟨j0, cap, c.drop m ++ tail, h1, rfl, by omega, ?_, ?_⟩⟩⟩
    · have b2 : bnd (some (.d (.i .i64 (m : Int)))) n cap = some m := by
        show (if 0 ≤ (m : Int) ∧ (m : Int) ≤ cap then some (m : Int).toNat else none) = _
        rw [if_pos (by omega), Int.toNat_natCast]
      have b3 : bnds n cap none (some (.d (.i .i64 (m : Int)))) none = some (0, m, cap) := by
        have b1 : bnd none cap cap = some cap := rfl
        unfold bnds
        rw [b1]
        simp only
        rw [b2]
        rfl
      simp only [slcV, if_true, b3, Option.map_some, Nat.zero_mul, Nat.add_zero, Nat.sub_zero]
    · rw [← List.append_assoc, List.take_append_drop]; exact hrow
    · rw [List.length_append, List.length_drop]; omega
/-- A shelf while its lists are grown by many: i have been. -/
structure PM (s : St) (p : Nat) (b : Shb) (i3 : Nat) (mk : Int) (K W : V) (kv wv : List V) (lab : Nat → Option Nat) (fs : Fs) (pv : List (V × List D)) (al : List (Nat × List V)) : Prop where
  hp : Hp 5 s p [.d (.i .i64 mk), .d (.i .i64 b.total), .d (.b false), .d (.sl 0 false []), .d (.sl 0 false []), K, W] lab fs pv al
  f1 : fs 1 = some (1, b.fr.length, b.F, b.fr.map (·.1))
  f4 : fs 4 = some (1, b.kv.length + b.fr.length + i3, K, kv)
  f5 : fs 5 = some (1, b.kv.length + b.fr.length + i3, W, wv)
  old : ∀ (t : Nat) k w, t < b.kv.length → kv[t]? = some k → wv[t]? = some w → Pr2 pv k w
  fr : ∀ (t : Nat) x, b.fr[t]? = some x → ∃ M w, kv[b.kv.length + t]? = some x.1 ∧ wv[b.kv.length + t]? = some w ∧ (w, M) ∈ pv ∧ (∀ d ∈ M, KI d) ∧ M.length ≤ 5497558138880 ∧ (t < i3 → (x.1, M) ∈ pv) ∧ (i3 ≤ t → ∃ n, fs (t + 6) = some (5, n, x.1, ofDs M) ∧ n ≤ 1099511627776)
  many : ∀ t, t < i3 → ∃ g w, kv[b.kv.length + b.fr.length + t]? = some g ∧ wv[b.kv.length + b.fr.length + t]? = some w ∧ Pr2 pv g w
  none : ∀ a, b.fr.length + 6 ≤ a → lab a = none ∧ fs a = none
  gone : ∀ t, t < i3 → lab (t + 6) = Option.none ∧ fs (t + 6) = Option.none
theorem PM.klen {s : St} {p : Nat} {b : Shb} {i3 : Nat} {mk : Int} {K W : V} {kv wv : List V} {lab : Nat → Option Nat} {fs : Fs} {pv : List (V × List D)} {al : List (Nat × List V)} (h : PM s p b i3 mk K W kv wv lab fs pv al) : kv.length = b.kv.length + b.fr.length + i3 ∧ wv.length = b.kv.length + b.fr.length + i3 :=
  ⟨by simpa using (h.hp.lr _ _ h.f4).1, by simpa using (h.hp.lr _ _ h.f5).1⟩
section
variable {pr : Prog} (hp : Sub shiFns pr) {st : St} {p : Nat} {b : Shb} {al : List (Nat × List V)}
include hp
theorem loopI3 {mk : Int} {K W : V} {kv wv : List V} {lab : Nat → Option Nat} {fs : Fs} {pv : List (V × List D)} (h : PM st p b 0 mk K W kv wv lab fs pv al) (hs : b.fr.length ≤ 3 ∧ b.kv.length ≤ 900000000) {m : Nat} (hm : b.total + 70 = (m : Int)) (hm2 : m ≤ 1099511627776) {own : Nat} (how : own = b.kv.length + b.fr.length) {Q : Out → Prop}
    (hQ : ∀ e s mk K W kv wv lab fs pv, PM s p b b.fr.length mk K W kv wv lab fs pv al → Q (.exit 6, e, s)) : CodeW pr (.loop [0, 2, 5, 10] false F218_spindlelaw3_Shelf_write_b3) [(0, .ptr p 0), (2, b.F), (5, .d (.i .i64 own)), (10, .d (.i .i64 0))] st Q := by
  refine loopW_j wSh (fun n e s => ∃ i mk K W kv wv lab fs pv, i ≤ b.fr.length ∧ n = b.fr.length - i ∧ e = [(0, .ptr p 0), (2, b.F), (5, .d (.i .i64 own)), (10, .d (.i .i64 i))] ∧ PM s p b i mk K W kv wv lab fs pv al) ?_ (n := b.fr.length) ⟨0, mk, K, W, kv, wv, lab, fs, pv, Nat.zero_le _, rfl, by simp, h⟩
  rintro n e s ⟨i, mk, K, W, kv, wv, lab, fs, pv, hi, rfl, rfl, h⟩
  have hlF := h.hp.len h.f1
  obtain ⟨hk1, hk2⟩ := h.klen
  rcases Nat.lt_or_ge i b.fr.length with hlt | hge
  rotate_left
  · have : i = b.fr.length := by omega
    subst this
    simp [F218_spindlelaw3_Shelf_write_b3, wSh, hlF]
    exact hQ _ _ mk K W kv wv lab fs pv h
  obtain ⟨x, hx⟩ : ∃ x, b.fr[i]? = some x := ⟨_, List.getElem?_eq_getElem hlt⟩
  obtain ⟨M, w, hki, hwi, hwM, hMk, _, _, hMi⟩ := h.fr i x hx
  obtain ⟨n, hfi, hn⟩ := hMi (Nat.le_refl _)
  have hMl : M.length = n * 5 := ((h.hp.lr _ _ hfi).lst).2.2
  have w1 : IntKind.wrap .i64 ((i : Int) + 1) = i + 1 := wrap_i64 (by omega) (by omega)
  have w0 : IntKind.wrap .i64 (b.total + 70) = (m : Int) := by rw [hm]; exact wrap_i64 (by omega) (by omega)
  have hrow := h.hp.row
  simp [F218_spindlelaw3_Shelf_write_b3, wSh, hlF, hlt, hrow, w0]
  refine callW_someI hp h.hp m hm2 (a := 50) (by omega) (h.none 50 (by omega)).1 ?_
  intro s1 mk1 E0 j E h1 hEk hEl g1 hj
  obtain ⟨jF1, cF1, hjF1, b1, b2, b3, b4⟩ := h1.get (a := 1) (by rw [updF_ne (by omega)]; exact h.f1) i (x := x.1) (by simp [hx]) (k := .i64)
  simp [F218_spindlelaw3_Shelf_write_b3, wSh, b1, b2, b3, b4]
  refine growMany h1 (a := i + 6) (by omega) (by omega) (by omega) (by rw [updF_ne (by omega)]; exact hfi) updF_eq (by rw [upd_ne (by omega)]; exact (h.none 51 (by omega)).1) hn hm2 hEk ?_
  intro e2 s2 g q0 q2 q5 q6 q7 q8 hg gr2
  obtain ⟨pv2, h2, hsub2, hgo, hg1⟩ := hg.out (by rw [upd_ne (by omega)]; exact (h.none 51 (by omega)).1) (by rw [updF_ne (by omega)]; exact (h.none 51 (by omega)).2)
  have hrow2 := h2.row
  obtain ⟨jW, cW, hjW, c1, c2, c3, c4⟩ := h2.get (a := 5) (by rw [updF_ne (by omega)]; exact h.f5) (b.kv.length + i) hwi (k := .i64)
  have w2 : IntKind.wrap .i64 ((own : Int) - b.fr.length) = b.kv.length := by rw [wrap_i64 (by omega) (by omega)]; omega
  have w3 : IntKind.wrap .i64 ((b.kv.length : Int) + i) = ((b.kv.length + i : Nat) : Int) := by rw [wrap_i64 (by omega) (by omega)]; omega
  obtain ⟨ix, hix⟩ : ∃ ix, ix = b.kv.length + i := ⟨_, rfl⟩
  rw [← hix] at c1 c3 c4 w3
  simp [q0, q2, q5, q6, q7, q8, wSh, hrow2, hlF, w2, w3, c1, c2, c3, c4]
  have hMp : Lst s2 5 w M := (h2.pv (w, M) (hsub2 _ hwM)).1
  refine callW_copyRowI hp h2 hMp (by omega) (a := 52) (by omega) (by rw [upd_ne (by omega)]; exact (h.none 52 (by omega)).1) ?_
  intro s3 v3 j3 n3 h3 g3 hn3 hj3
  have hlE := h3.lr 50 (5, m, E0, ofDs E) (by rw [updF_ne (by omega), updF_eq])
  have hvE : vwV 5 s3 E0 = some (m, ofDs E) := by
    obtain ⟨n', e1, e2, _⟩ := (hlE.lst).1.vw
    have : n' = m := by omega
    rw [this] at e1
    exact e1
  simp [wSh]
  refine h3.app (a := 52) (by omega) updF_eq hvE (by rw [ofDs_len]; exact hEl) rfl (by omega) (by omega) ?_
  intro s4 v4 j4 h4 g4 n4
  have hv41 := h4.one (a := 52) updF_eq
  have hcat : ofDs M ++ ofDs E = ofDs (M ++ E) := by simp [ofDs]
  rw [updF_updF, upd_upd, hcat] at h4
  have h5 := h4.done (a := 52) (by omega) updF_eq
  rw [upd_upd, updF_updF, upd_off (by rw [upd_ne (by omega)]; exact (h.none 52 (by omega)).1), updF_off (by rw [updF_ne (by omega)]; exact (h.none 52 (by omega)).2)] at h5
  have h6 := h5.drop (a := 50) (by omega)
  rw [upd_upd, updF_updF, upd_off (h.none 50 (by omega)).1, updF_off (h.none 50 (by omega)).2] at h6
  have L3 := g3.len
  have hs24 : Gr s2 s4 (fun r => s2.heap.length ≤ r) (fun _ => True) := (g3.mono (fun _ _ e => e.elim) fun _ _ => trivial).trans (g4.mono (fun r hr e => by
    rw [upd_eq] at e
    exact hj3 r e) fun _ _ => trivial)
  have hgo4 : (g, M ++ E) ∈ pv2 ∨ LR s4 5 g (n + m) (ofDs (M ++ E)) (lab (i + 6)) := hgo.imp id fun hl => by
    rw [upd_ne (by omega)] at hl
    exact hl.gr hs24 fun r hr e => by have := hl.lt hr; omega
  simp [wSh]
  -- the label is given up
  have h7 := h6.done (a := i + 6) (by omega) hfi
  obtain ⟨pv3, h8, hsub3, hgin, hxin, hvin⟩ : ∃ pv3, Hp 5 s4 p [.d (.i .i64 mk1), .d (.i .i64 b.total), .d (.b false), .d (.sl 0 false []), .d (.sl 0 false []), K, W] (upd lab (i + 6) none) (updF fs (i + 6) none) pv3 al ∧ (∀ x ∈ pv2, x ∈ pv3) ∧ (g, M ++ E) ∈ pv3 ∧ (x.1, M) ∈ pv3 ∧ (v4, M ++ E) ∈ pv3 := by
    rcases hgo4 with e | e
    · exact ⟨_, h7, fun y hy => List.mem_cons_of_mem _ (List.mem_cons_of_mem _ hy), List.mem_cons_of_mem _ (List.mem_cons_of_mem _ e), List.mem_cons_self, List.mem_cons_of_mem _ List.mem_cons_self⟩
    · obtain ⟨q1, q2, _⟩ := e.lst
      have h8 := h7.prot q1 (h6.free q2) fun y hy e' => (h6.al y hy).2.1 (i + 6) (by rw [← q2]; exact e')
      exact ⟨_, h8, fun y hy => List.mem_cons_of_mem _ (List.mem_cons_of_mem _ (List.mem_cons_of_mem _ hy)), List.mem_cons_self, List.mem_cons_of_mem _ List.mem_cons_self, List.mem_cons_of_mem _ (List.mem_cons_of_mem _ List.mem_cons_self)⟩
  refine callW_keepI hp h8 (by rw [updF_ne (by omega)]; exact h.f4) (by rw [updF_ne (by omega)]; exact h.f5) hg1 hv41 (by omega) ?_
  intro s5 K' W' j6 j7 h9 g7
  simp [w1]
  have hsub : ∀ y ∈ pv, y ∈ pv3 := fun y hy => hsub3 y (hsub2 y hy)
  refine ⟨b.fr.length - (i + 1), by omega, i + 1, by omega, rfl, rfl, mk1, K', W', kv ++ [g], wv ++ [v4], _, _, _, h9, ?_, ?_, ?_, ?_, ?_, ?_, ?_, ?_⟩
  · rw [updF_ne (by omega), updF_ne (by omega), updF_ne (by omega)]; exact h.f1
  · rw [updF_ne (by omega), updF_eq, show b.kv.length + b.fr.length + i + 1 = b.kv.length + b.fr.length + (i + 1) by omega]
  · rw [updF_eq, show b.kv.length + b.fr.length + i + 1 = b.kv.length + b.fr.length + (i + 1) by omega]
  · intro t k w ht e1 e2
    exact (h.old t k w ht (get_app_lt e1 (by omega)) (get_app_lt e2 (by omega))).mono hsub
  · intro t y hy
    have htl := (List.getElem?_eq_some_iff.1 hy).1
    by_cases hti : t = i
    · subst hti
      rw [hx] at hy
      obtain rfl := Option.some.inj hy
      exact ⟨M, w, get_app hki, get_app hwi, hsub _ hwM, hMk, by omega, fun _ => hxin, fun ht => absurd ht (by omega)⟩
    · obtain ⟨M', w', f1, f2, f3, f4, f5, f6, f7⟩ := h.fr t y hy
      refine ⟨M', w', get_app f1, get_app f2, hsub _ f3, f4, f5, fun ht => hsub _ (f6 (by omega)), fun ht => ?_⟩
      obtain ⟨n', f8, f9⟩ := f7 (by omega)
      exact ⟨n', by rw [updF_ne (by omega), updF_ne (by omega), updF_ne (by omega)]; exact f8, f9⟩
  · intro t ht
    by_cases hti : t = i
    · subst hti
      refine ⟨g, v4, get_last (by omega), get_last (by omega), M ++ E, hgin, hvin, ?_, by rw [List.length_append]; omega⟩
      intro d hd
      rcases List.mem_append.1 hd with hd | hd
      · exact hMk d hd
      · exact hEk d hd
    · obtain ⟨g', w', f1, f2, f3⟩ := h.many t (by omega)
      exact ⟨g', w', get_app f1, get_app f2, f3.mono hsub⟩
  · intro a ha
    rw [upd_ne (by omega), upd_ne (by omega), updF_ne (by omega), updF_ne (by omega), upd_ne (by omega), updF_ne (by omega)]
    exact h.none a ha
  · intro t ht
    rw [upd_ne (by omega), upd_ne (by omega), updF_ne (by omega), updF_ne (by omega)]
    by_cases hti : t = i
    · subst hti; rw [upd_eq, updF_eq]; exact ⟨rfl, rfl⟩
    · rw [upd_ne (by omega), updF_ne (by omega)]; exact h.gone t (by omega)
end
end Go.Sh
