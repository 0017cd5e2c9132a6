/- Lists of symbols: all lists are grown, kept. -/
import Derived.Test.YtnemobbnlacmjaaShLsyG
set_option linter.unusedVariables false
set_option linter.unusedSimpArgs false
namespace Go.Sh
theorem vwV_lit62 (st : St) (X Y : List V) (h : X.length = 6) (h' : Y.length = 6) : vwV 6 (st.push (.row (X ++ Y))) (.rsl 6 st.heap.length 0 2 2) = some (2, X ++ Y) := by
  have : (X ++ Y).take 12 = X ++ Y := List.take_of_length_le (by rw [List.length_append]; omega)
  simp [vwV, h, h', this]
theorem kw_app {P : V → V → Prop} {kv wv : List V} {k w : V} (h : ∀ (t : Nat) a c, kv[t]? = some a → wv[t]? = some c → P a c) (hl : kv.length = wv.length) (hk : P k w) : ∀ (t : Nat) a c, (kv ++ [k])[t]? = some a → (wv ++ [w])[t]? = some c → P a c := by
  intro t a c h1 h2
  rcases Nat.lt_or_ge t kv.length with hlt | hge
  · exact h t a c (get_app_lt h1 hlt) (get_app_lt h2 (by omega))
  · have : t = kv.length := by
      have := (List.getElem?_eq_some_iff.1 h1).1
      simp at this
      omega
    rw [get_last this] at h1
    rw [get_last (by omega)] at h2
    obtain rfl := Option.some.inj h1
    obtain rfl := Option.some.inj h2
    exact hk
section
variable {pr : Prog} (hp : Sub syFns pr) {st : St} {p : Nat} {b : Syb} {al : List (Nat × List V)} {mo : V} {m : Nat} {E : List D}
include hp
theorem loopY3 {K W : V} {kv wv : List V} {lab : Nat → Option Nat} {fs : Fs} {pv : List (V × List D)} (h : PG st p b 0 mo m E K W kv wv lab fs pv al) (hs : b.fr.length ≤ 3 ∧ b.kv.length ≤ 900000000) {Q : Out → Prop}
    (hQ : ∀ e s K W kv wv lab fs pv, e.get 0 = some (.ptr p 0) → PG s p b b.fr.length mo m E K W kv wv lab fs pv al → Q (.exit 6, e, s)) : CodeW pr (.loop [0, 2, 5, 7] false F209_spindlelaw10_Symbols_write_b3) [(0, .ptr p 0), (2, .d (.i .i64 b.kv.length)), (5, mo), (7, .d (.i .i64 0))] st Q := by
  refine loopW_j wSy (fun n e s => ∃ i K W kv wv lab fs pv, i ≤ b.fr.length ∧ n = b.fr.length - i ∧ e = [(0, .ptr p 0), (2, .d (.i .i64 b.kv.length)), (5, mo), (7, .d (.i .i64 i))] ∧ PG s p b i mo m E K W kv wv lab fs pv al) ?_ (n := b.fr.length) ⟨0, K, W, kv, wv, lab, fs, pv, Nat.zero_le _, rfl, by simp, h⟩
  rintro n e s ⟨i, K, W, kv, wv, lab, fs, pv, hi, rfl, rfl, h⟩
  have hlF := h.hp.len h.f1
  obtain ⟨hk1, hk2⟩ := h.klen
  have hrow := h.hp.row
  rcases Nat.lt_or_ge i b.fr.length with hlt | hge
  rotate_left
  · have : i = b.fr.length := by omega
    subst this
    simp [F209_spindlelaw10_Symbols_write_b3, wSy, hrow, hlF]
    exact hQ _ _ K W kv wv lab fs pv (by simp) h
  obtain ⟨x, hx⟩ : ∃ x, b.fr[i]? = some x := ⟨_, List.getElem?_eq_getElem hlt⟩
  obtain ⟨n, hfi, hn⟩ := h.fr i x hx (Nat.le_refl _)
  obtain ⟨A, hA⟩ : ∃ A : Int, A = ((b.kv.length + i : Nat) : Int) := ⟨_, rfl⟩
  rw [← hA] at hfi
  obtain ⟨M, hM⟩ : ∃ M, M = mkL A 0 n := ⟨_, rfl⟩
  have hMl : M.length = n * 6 := by rw [hM]; exact mkL_len _ _ _
  have hMk : ∀ d ∈ M, KI d := by rw [hM]; exact mkL_k _ _ _
  rw [← hM] at hfi
  have wA : IntKind.wrap .i64 ((b.kv.length : Int) + (i : Int)) = A := by rw [wrap_i64 (by omega) (by omega)]; omega
  have w1 : IntKind.wrap .i64 ((i : Int) + 1) = i + 1 := wrap_i64 (by omega) (by omega)
  obtain ⟨jF, cF, hjF, b1, b2, b3, b4⟩ := h.hp.get h.f1 i (x := x.1) (by simp [hx]) (k := .i64)
  have hEl : E.length = m * 6 := ((h.hp.lr _ _ h.f50).lst).2.2
  have hlm := h.hp.len h.f50
  have hlf := h.hp.len hfi
  have hm3 := h.m3
  have n51 := h.none 51 (by omega) (by omega)
  have n52 := h.none 52 (by omega) (by omega)
  have n53 := h.none 53 (by omega) (by omega)
  have hsep : ∀ c, c ≠ i + 6 → ∀ r, lab (i + 6) = some r → lab c ≠ some r := fun c hc r hr e => hc (h.hp.labs.sep c (i + 6) r e hr)
  -- the marks behind
  obtain ⟨X1, hX1⟩ : ∃ X, X = mkS A (-1) := ⟨_, rfl⟩
  obtain ⟨X2, hX2⟩ : ∃ X, X = mkS A (-2) := ⟨_, rfl⟩
  obtain ⟨X3, hX3⟩ : ∃ X, X = mkS A (-3) := ⟨_, rfl⟩
  have mk1 := fun st => den_markS hp (st := st) A (-1)
  have mk2 := fun st => den_markS hp (st := st) A (-2)
  have mk3 := fun st => den_markS hp (st := st) A (-3)
  rw [← hX1] at mk1
  rw [← hX2] at mk2
  rw [← hX3] at mk3
  have l1 : X1.length = 6 := by rw [hX1]; rfl
  have l2 : X2.length = 6 := by rw [hX2]; rfl
  have l3 : X3.length = 6 := by rw [hX3]; rfl
  have k1 : ∀ d ∈ X1, KI d := by rw [hX1]; exact mkS_k _ _
  have k23 : ∀ d ∈ X2 ++ X3, KI d := fun d hd => by
    rcases List.mem_append.1 hd with hd | hd
    · rw [hX2] at hd; exact mkS_k _ _ d hd
    · rw [hX3] at hd; exact mkS_k _ _ d hd
  have y1 : lay (ofDs zero6) 0 (ofDs X1) = ofDs X1 := by simp [lay, ofDs, l1]
  obtain ⟨Y, hY⟩ : ∃ Y, Y = X2 ++ X3 := ⟨_, rfl⟩
  have lY : Y.length = 12 := by rw [hY, List.length_append, l2, l3]
  have kY : ∀ d ∈ Y, KI d := by rw [hY]; exact k23
  have y2 : lay (ofDs (zero6 ++ zero6)) 0 (ofDs X2) = ofDs X2 ++ ofDs zero6 := by simp [lay, ofDs, l2]
  have y3 : lay (ofDs X2 ++ ofDs zero6) 6 (ofDs X3) = ofDs Y := by
    unfold lay
    rw [List.take_left' (by rw [ofDs_len, l2]), List.drop_of_length_le (by rw [List.length_append, ofDs_len, ofDs_len, ofDs_len, l2, l3]; exact Nat.le_refl _), List.append_nil, hY]
    simp [ofDs]
  have v1 := vwV_lit6 s (ofDs X1) (by rw [ofDs_len, l1])
  have v2 : ∀ s : St, vwV 6 (s.push (.row (ofDs Y))) (.rsl 6 s.heap.length 0 2 2) = some (2, ofDs Y) := fun s => by
    have := vwV_lit62 s (ofDs X2) (ofDs X3) (by rw [ofDs_len, l2]) (by rw [ofDs_len, l3])
    rw [hY]
    simpa [ofDs] using this
  have o1 : V.ok1 (.agg (ofDs X1)) = true := aggOk X1
  have o2 : V.ok1 (.agg (ofDs X2)) = true := aggOk X2
  have o3 : V.ok1 (.agg (ofDs X3)) = true := aggOk X3
  have cs : ∀ X, V.cs (.agg X) = X := fun _ => rfl
  simp [ofDs] at y1 y2 y3 o1 o2 o3 v1 v2
  simp [F209_spindlelaw10_Symbols_write_b3, wSy, hrow, hlF, hlt, b1, b2, b3, b4, wA, mk1, fillV, reps]
  simp [ofDs, o1, cs, y1, l1]
  refine GrwS.app (N := s.heap.length) (a := i + 6) (E := []) (ys := X1) (m := 1) (.inl ⟨h.hp, by simpa using h.hp.lr _ _ hfi⟩) (by omega) (by omega) hfi n51.1 (by simpa [ofDs] using v1) (by rw [l1]) (by omega) (by omega) k1 (Nat.le_refl _) ?_
  intro s1 g1 hg1 gr1
  obtain ⟨pv1, h1, sub1, go1, one1⟩ := hg1.out n51.1 n51.2
  have sm1 : Sm s1 pv1 (lab (i + 6)) g1 (n + 1) := Sm.of (p := p) go1 (by rw [List.append_nil, List.length_append, l1]; omega) (fun d hd => by
    rw [List.append_nil] at hd
    rcases List.mem_append.1 hd with hd | hd
    · exact hMk d hd
    · exact k1 d hd)
  simp [F209_spindlelaw10_Symbols_write_b3, wSy, wA, mk2, mk3, fillV, reps]
  simp [ofDs, o2, o3, cs, y2, y3, l2, l3]
  have L1 := gr1.len
  simp only [push_len] at L1
  refine GrwS.app (N := s.heap.length) (a := i + 6) (E := []) (ys := Y) (m := 2) (.inl ⟨h1, by simpa using h1.lr _ _ hfi⟩) (by omega) (by omega) hfi n51.1 (by simpa [ofDs] using v2 s1) (by rw [lY]) (by omega) (by omega) kY (by omega) ?_
  intro s2 g2 hg2 gr2
  obtain ⟨pv2, h2, sub2, go2, one2⟩ := hg2.out n51.1 n51.2
  have sm2 : Sm s2 pv2 (lab (i + 6)) g2 (n + 2) := Sm.of (p := p) go2 (by rw [List.append_nil, List.length_append, lY]; omega) (fun d hd => by
    rw [List.append_nil] at hd
    rcases List.mem_append.1 hd with hd | hd
    · exact hMk d hd
    · exact kY d hd)
  have sm1 := (sm1.kind ((Gr.push _).trans gr2) (fun _ h => h)).mono sub2
  have L2 := gr2.len
  simp only [push_len] at L2
  obtain ⟨m', vE, lE, _⟩ := ((h2.lr _ _ h.f50).lst).1.vw
  have : m' = m := by simp at lE; omega
  subst this
  simp [F209_spindlelaw10_Symbols_write_b3, wSy]
  refine GrwS.app0 (N := s.heap.length) (a := i + 6) (E := []) (ys := E) (m := m') (.inl ⟨h2, by simpa using h2.lr _ _ hfi⟩) (by omega) (by omega) hfi n51.1 vE hEl (by omega) h.ek (by omega) ?_
  intro s3 g3 hg3 gr3
  obtain ⟨pv3, h3, sub3, go3, one3⟩ := hg3.out n51.1 n51.2
  have sm3 : Sm s3 pv3 (lab (i + 6)) g3 (n + m') := Sm.of (p := p) go3 (by rw [List.append_nil, List.length_append, hEl]; omega) (fun d hd => by
    rw [List.append_nil] at hd
    rcases List.mem_append.1 hd with hd | hd
    · exact hMk d hd
    · exact h.ek d hd)
  have sm1 := (sm1.kind gr3 (fun _ h => h)).mono sub3
  have sm2 := (sm2.kind gr3 (fun _ h => h)).mono sub3
  have L3 := gr3.len
  simp [F209_spindlelaw10_Symbols_write_b3, wSy]
  refine loopY4 hp (base := b.kv.length) (i := i) (A := A) h3 n52.1 hlf hn wA ?_
  intro e4 s4 w4 j4 q0 q2 q5 q7 q8 q9 q10 q11 q12 q13 h4 gr4 hj4
  rw [← hM] at h4
  simp [q0, q2, q5, q7, q8, q9, q10, q11, q12, q13]
  simp [wSy, fillV, reps, ofDs]
  have lw4 := ((h4.lr 52 _ updF_eq).lst).1
  have hMl3 : M.length ≤ 17592186044412 := by omega
  refine h4.copy6 lw4 hMl3 (by rw [upd_ne (by omega)]; exact n53.1) (by rw [updF_ne (by omega)]; exact n53.2) ?_
  intro s5 c5 h5 gr5 one5
  simp [wSy]
  refine callW_keepZ hp h5 (n := b.kv.length + 5 * i) (kv := kv) (wv := wv) (by rw [updF_ne (by omega)]; exact h.f4) (by rw [updF_ne (by omega)]; exact h.f5) (h.hp.one hfi) one5 (by omega) ?_
  intro s6 K6 W6 lab6 fs6 h6 off6 f46 f56 gr6
  have e52 : lab6 52 = j4 ∧ fs6 52 = some (6, n, w4, ofDs M) := by have := off6 52 (by omega) (by omega); rw [upd_eq, updF_eq] at this; exact this
  obtain ⟨lab7, hl7⟩ : ∃ l, l = upd lab6 52 none := ⟨_, rfl⟩
  obtain ⟨fs7, hf7⟩ : ∃ l, l = updF fs6 52 none := ⟨_, rfl⟩
  have b7 : upd lab7 52 j4 = lab6 := by rw [hl7, upd_upd, ← e52.1, upd_self]
  have b7F : updF fs7 52 (some (6, n, w4, ofDs M)) = fs6 := by rw [hf7, updF_updF, ← e52.2, updF_self]
  have off7 : Off45 lab lab7 fs fs7 := fun c k4 k5 => by
    by_cases hc : c = 52
    · subst hc; rw [hl7, hf7, upd_eq, updF_eq]; exact ⟨n52.1.symm, n52.2.symm⟩
    · rw [hl7, hf7, upd_ne hc, updF_ne hc]; have := off6 c k4 k5; rw [upd_ne hc, updF_ne hc] at this; exact this
  have h6' : Hp 6 s6 p [.d (.i .i64 b.total), .d (.b false), b.F, b.H, K6, W6] (upd lab7 52 j4) (updF fs7 52 (some (6, n, w4, ofDs M))) ((c5, M) :: pv3) al := by rw [b7, b7F]; exact h6
  have L4 := gr4.len
  have L5 := gr5.len
  have L6 := gr6.len
  have kp6 : ∀ g m, Sm s3 pv3 (lab (i + 6)) g m → Sm s6 ((c5, M) :: pv3) (lab (i + 6)) g m := fun g m sm =>
    (((sm.keep gr4 fun r hr _ e => by omega).keep gr5 fun r hr _ e => e).keep gr6 fun r hr e1 e => by
      rcases e with e | e | e
      · exact hsep 0 (by omega) r e1 (by rw [e]; exact h.hp.p0)
      · rw [upd_ne (by omega)] at e; exact hsep 4 (by omega) r e1 e
      · rw [upd_ne (by omega)] at e; exact hsep 5 (by omega) r e1 e).mono fun x hx => List.mem_cons_of_mem _ hx
  have sm1 := kp6 _ _ sm1
  have sm2 := kp6 _ _ sm2
  have sm3 := kp6 _ _ sm3
  have o7 := off7 (i + 6) (by omega) (by omega)
  simp [wSy]
  refine loopY5 hp (N := s.heap.length) (by omega) (a := i + 6) (by omega) (by omega) (by omega) (o7.2.trans hfi) h6' (fun r hr => by have := hj4 r hr; omega) ((off7 51 (by omega) (by omega)).1.trans n51.1) hn h.m3 hlm wA ?_
  intro e7 s7 g4 w7 j7 u0 u2 u5 u7 u9 u10 u11 u12 u13 hg4 gr7 hj7
  obtain ⟨pv7, h7, sub7, go7, one7⟩ := hg4.out (by rw [upd_ne (by omega)]; exact (off7 51 (by omega) (by omega)).1.trans n51.1) (by rw [updF_ne (by omega)]; exact (off7 51 (by omega) (by omega)).2.trans n51.2)
  obtain ⟨M4, hM4⟩ : ∃ X, X = M ++ mkL A 1000 m' := ⟨_, rfl⟩
  rw [← hM4] at h7 go7
  have lM4 : M4.length = (n + m') * 6 := by rw [hM4, List.length_append, mkL_len, hMl]; omega
  have kM4 : ∀ d ∈ M4, KI d := by
    rw [hM4]
    intro d hd
    rcases List.mem_append.1 hd with hd | hd
    · exact hMk d hd
    · exact mkL_k _ _ _ d hd
  have sm1 := (sm1.kind gr7 (fun _ h => h)).mono sub7
  have sm2 := (sm2.kind gr7 (fun _ h => h)).mono sub7
  have sm3 := (sm3.kind gr7 (fun _ h => h)).mono sub7
  have one8 := h7.one (a := 52) updF_eq
  have h8 := h7.done (a := 52) (by omega) updF_eq
  rw [upd_upd, updF_updF, upd_off (by rw [hl7, upd_eq]), updF_off (by rw [hf7, updF_eq])] at h8
  rw [upd_ne (by omega), o7.1] at go7
  have cm : ∀ x ∈ pv7, x ∈ (w7, M4) :: pv7 := fun x hx => List.mem_cons_of_mem _ hx
  obtain ⟨pv9, h9, sub9, in9, all9⟩ := prots h8 (a := i + 6) (by omega) (o7.2.trans hfi) [(g1, n + 1), (g2, n + 2), (g3, n + m')] (fun x hx => by
    rw [o7.1]
    simp only [List.mem_cons, List.not_mem_nil, or_false] at hx
    rcases hx with rfl | rfl | rfl
    · exact sm1.mono cm
    · exact sm2.mono cm
    · exact sm3.mono cm)
  obtain ⟨pvA, hA9, subA, g4A⟩ : ∃ pvA, Hp 6 s7 p [.d (.i .i64 b.total), .d (.b false), b.F, b.H, K6, W6] (upd lab7 (i + 6) none) (updF fs7 (i + 6) none) pvA al ∧ (∀ x ∈ pv9, x ∈ pvA) ∧ (g4, M4) ∈ pvA := by
    rcases go7 with e | e
    · exact ⟨pv9, h9, fun _ h => h, sub9 _ (cm _ e)⟩
    · have ft : foot g4 = lab7 (i + 6) := (e.lst).2.1.trans o7.1.symm
      exact ⟨_, h9.prot (e.lst).1 (h8.free ft) (fun x hx e => (h8.al x hx).2.1 (i + 6) (by rw [← ft]; exact e)), fun x hx => List.mem_cons_of_mem _ hx, List.mem_cons_self⟩
  have inA : ∀ x ∈ pv7, x ∈ pvA := fun x hx => subA _ (sub9 _ (cm x hx))
  obtain ⟨G1, i1, e1, kk1⟩ := all9 _ List.mem_cons_self
  obtain ⟨G2, i2, e2, kk2⟩ := all9 _ (List.mem_cons_of_mem _ List.mem_cons_self)
  obtain ⟨G3, i3, e3, kk3⟩ := all9 _ (List.mem_cons_of_mem _ (List.mem_cons_of_mem _ List.mem_cons_self))
  simp only at i1 e1 i2 e2 i3 e3
  obtain ⟨lab9, hl9⟩ : ∃ l, l = upd lab7 (i + 6) none := ⟨_, rfl⟩
  obtain ⟨fs9, hf9⟩ : ∃ l, l = updF fs7 (i + 6) none := ⟨_, rfl⟩
  rw [← hl9, ← hf9] at hA9
  have n9 : ∀ a, b.fr.length + 6 ≤ a → a ≠ 50 → lab9 a = none ∧ fs9 a = none := fun a ha hb => by
    rw [hl9, hf9, upd_ne (by omega), updF_ne (by omega), (off7 a (by omega) (by omega)).1, (off7 a (by omega) (by omega)).2]
    exact h.none a ha hb
  have e45 : fs9 4 = some (1, b.kv.length + 5 * i + 1, K6, kv ++ [x.1]) ∧ fs9 5 = some (1, b.kv.length + 5 * i + 1, W6, wv ++ [c5]) := by
    rw [hf9, hf7, updF_ne (by omega), updF_ne (by omega), updF_ne (by omega), updF_ne (by omega)]
    exact ⟨f46, f56⟩
  simp [u0, u2, u5, u7, u9, u10, u11, u12, u13, wSy]
  refine callW_keepZ hp hA9 e45.1 e45.2 one7 one8 (by omega) ?_
  intro t1 K10 W10 lab10 fs10 h10 off10 f410 f510 gr10
  have n10 : ∀ a, b.fr.length + 6 ≤ a → a ≠ 50 → lab10 a = none ∧ fs10 a = none := fun a ha hb => by rw [(off10 a (by omega) (by omega)).1, (off10 a (by omega) (by omega)).2]; exact n9 a ha hb
  simp [wSy, fillV, reps, ofDs]
  refine h10.copy6 (h10.pv _ ((subA _ i1))).1 (by rw [e1]; omega) (n10 53 (by omega) (by omega)).1 (n10 53 (by omega) (by omega)).2 ?_
  intro t11 c11 h11 gr11 one11
  simp [wSy]
  refine callW_keepZ hp h11 f410 f510 (h11.pv _ (List.mem_cons_of_mem _ (subA _ i1))).1.one one11 (by omega) ?_
  intro t12 K12 W12 lab12 fs12 h12 off12 f412 f512 gr12
  have n12 : ∀ a, b.fr.length + 6 ≤ a → a ≠ 50 → lab12 a = none ∧ fs12 a = none := fun a ha hb => by rw [(off12 a (by omega) (by omega)).1, (off12 a (by omega) (by omega)).2]; exact n10 a ha hb
  simp [wSy, fillV, reps, ofDs]
  refine h12.copy6 (h12.pv _ ((List.mem_cons_of_mem _ (subA _ i2)))).1 (by rw [e2]; omega) (n12 53 (by omega) (by omega)).1 (n12 53 (by omega) (by omega)).2 ?_
  intro t13 c13 h13 gr13 one13
  simp [wSy]
  refine callW_keepZ hp h13 f412 f512 (h13.pv _ (List.mem_cons_of_mem _ (List.mem_cons_of_mem _ (subA _ i2)))).1.one one13 (by omega) ?_
  intro t14 K14 W14 lab14 fs14 h14 off14 f414 f514 gr14
  have n14 : ∀ a, b.fr.length + 6 ≤ a → a ≠ 50 → lab14 a = none ∧ fs14 a = none := fun a ha hb => by rw [(off14 a (by omega) (by omega)).1, (off14 a (by omega) (by omega)).2]; exact n12 a ha hb
  simp [wSy, fillV, reps, ofDs]
  refine h14.copy6 (h14.pv _ ((List.mem_cons_of_mem _ (List.mem_cons_of_mem _ (subA _ i3))))).1 (by rw [e3]; omega) (n14 53 (by omega) (by omega)).1 (n14 53 (by omega) (by omega)).2 ?_
  intro t15 c15 h15 gr15 one15
  simp [wSy]
  refine callW_keepZ hp h15 f414 f514 (h15.pv _ (List.mem_cons_of_mem _ (List.mem_cons_of_mem _ (List.mem_cons_of_mem _ (subA _ i3))))).1.one one15 (by omega) ?_
  intro t16 K16 W16 lab16 fs16 h16 off16 f416 f516 gr16
  simp [w1, wSy]
  have offT := ((off10.trans off12).trans off14).trans off16
  have same : ∀ c, c ≠ 4 → c ≠ 5 → c ≠ i + 6 → lab16 c = lab c ∧ fs16 c = fs c := fun c k4 k5 k6 => by
    rw [(offT c k4 k5).1, (offT c k4 k5).2, hl9, hf9, upd_ne k6, updF_ne k6]
    exact off7 c k4 k5
  have arith : b.kv.length + 5 * i + 1 + 1 + 1 + 1 + 1 = b.kv.length + 5 * (i + 1) := by omega
  rw [arith] at f416 f516
  have cons3 : ∀ {x : V × List D}, x ∈ pvA → x ∈ (c15, G3) :: (c13, G2) :: (c11, G1) :: pvA := fun h => List.mem_cons_of_mem _ (List.mem_cons_of_mem _ (List.mem_cons_of_mem _ h))
  refine ⟨b.fr.length - (i + 1), by omega, i + 1, by omega, rfl, rfl, K16, W16, _, _, lab16, fs16, _, h16, ?_, f416, f516, ?_, h.ek, h.m3, ?_, ?_, ?_, ?_⟩
  · exact (same 1 (by omega) (by omega) (by omega)).2.trans h.f1
  · exact (same 50 (by omega) (by omega) (by omega)).2.trans h.f50
  · have P : ∀ k w L, (k, L) ∈ (c15, G3) :: (c13, G2) :: (c11, G1) :: pvA → (w, L) ∈ (c15, G3) :: (c13, G2) :: (c11, G1) :: pvA → (∀ d ∈ L, KI d) → L.length ≤ 54975581388800 → Pr2 ((c15, G3) :: (c13, G2) :: (c11, G1) :: pvA) k w := fun k w L a1 a2 a3 a4 => ⟨L, a1, a2, a3, a4⟩
    refine kw_app (kw_app (kw_app (kw_app (kw_app (fun t k w a1 a2 => (h.kw t k w a1 a2).mono fun x hx => cons3 (inA _ (sub7 _ (List.mem_cons_of_mem _ (sub3 _ (sub2 _ (sub1 _ hx))))))) (by omega) ?_) ?_ ?_) ?_ ?_) ?_ ?_) ?_ ?_
    · exact P _ _ M (cons3 (subA _ in9)) (cons3 (inA _ (sub7 _ List.mem_cons_self))) hMk (by omega)
    · simp; omega
    · exact P _ _ M4 (cons3 g4A) (cons3 (subA _ (sub9 _ List.mem_cons_self))) kM4 (by omega)
    · simp; omega
    · exact P _ _ G1 (cons3 (subA _ i1)) (List.mem_cons_of_mem _ (List.mem_cons_of_mem _ List.mem_cons_self)) kk1 (by omega)
    · simp; omega
    · exact P _ _ G2 (cons3 (subA _ i2)) (List.mem_cons_of_mem _ List.mem_cons_self) kk2 (by omega)
    · simp; omega
    · exact P _ _ G3 (cons3 (subA _ i3)) List.mem_cons_self kk3 (by omega)
  · intro t y hy ht
    have htl := (List.getElem?_eq_some_iff.1 hy).1
    rw [(same (t + 6) (by omega) (by omega) (by omega)).2]
    exact h.fr t y hy (by omega)
  · intro a ha hb
    rw [(same a (by omega) (by omega) (by omega)).1, (same a (by omega) (by omega) (by omega)).2]
    exact h.none a ha hb
  · intro t ht
    by_cases hti : t = i
    · subst hti
      rw [(offT (t + 6) (by omega) (by omega)).1, (offT (t + 6) (by omega) (by omega)).2, hl9, hf9, upd_eq, updF_eq]
      exact ⟨rfl, rfl⟩
    · rw [(same (t + 6) (by omega) (by omega) (by omega)).1, (same (t + 6) (by omega) (by omega) (by omega)).2]
      exact h.gone t (by omega)
end
end Go.Sh
