/- Lists of numbers: all lists are grown; the lists, and what grew place by place, are kept. -/
import Derived.Test.YtnemobbnlacmjaaDoorShLnuF
set_option linter.unusedVariables false
set_option linter.unusedSimpArgs false
namespace Go.Sh
theorem GrwN.at5 {N : Nat} {s : St} {p : Nat} {R : List V} {lab : Nat → Option Nat} {fs : Fs} {pv : List (V × List D)} {al : List (Nat × List V)} {a n m : Nat} {f x : V} {M ys : List D} (h : Hp 1 s p R lab fs pv al) (ha : a ≠ 0) (hf : fs a = some (1, n, f, ofDs M)) (hl : lab 51 = none) (hx : vwV 1 s x = some (m, ofDs ys)) (hy : ys.length = m * 1) (hn : n + m ≤ 17592186044416) (hyk : ∀ d ∈ ys, KI d) (hN : N ≤ s.heap.length) {Q : V → St → Prop}
    (hQ : ∀ s' g', GrwN N s' p R lab fs pv al a (n + m) g' (M ++ ys) → Gr s s' (fun r => lab a = some r ∨ N ≤ r) (fun x => ∃ d, x = .d d ∧ KI d) → (∀ g4, LR s 1 g4 (n + m) (ofDs (M ++ ys)) (lab a) → LR s' 1 g4 (n + m) (ofDs (M ++ ys)) (lab a)) → Q g' s') : appW 1 8 [D.i .i64 0] s f x Q := by
  have hkk : ∀ x, x ∈ ofDs ys → ∃ d, x = V.d d ∧ KI d := fun x hx => by
    simp only [ofDs, List.mem_map] at hx
    obtain ⟨d, hd, rfl⟩ := hx
    exact ⟨d, rfl, hyk d hd⟩
  have hc : ofDs M ++ ofDs ys = ofDs (M ++ ys) := by simp [ofDs]
  refine h.fork2 ha (b := 51) (by omega) hf hx (by rw [ofDs_len]; exact hy) rfl (by omega) (by omega) hl ?_ ?_
  · intro s' g' h' hg' gr same
    rw [hc] at hg' same
    exact hQ s' g' (.inl ⟨h', hg'⟩) (gr.mono (fun r hr e => .inl e) fun x hx => hkk x hx) same
  · intro s' g' j' h' gr nw same
    rw [hc] at h' same
    refine hQ s' g' (.inr ⟨j', fun r hr => ?_, h'⟩) (gr.mono (fun r hr e => .inl e) fun x hx => hkk x hx) same
    rcases nw with e | ⟨i, e, hi, _⟩
    · rw [e] at hr; cases hr
    · rw [e] at hr
      obtain rfl := Option.some.inj hr
      omega
theorem kwN_app {P : V → V → Prop} {kv wv : List V} {k w : V} (h : ∀ (t : Nat) a c, kv[t]? = some a → wv[t]? = some c → P a c) (hl : kv.length = wv.length) (hk : P k w) : ∀ (t : Nat) a c, (kv ++ [k])[t]? = some a → (wv ++ [w])[t]? = some c → P a c := by
  intro t a c h1 h2
  rcases Nat.lt_or_ge t kv.length with hlt | hge
  · exact h t a c (get_app_lt h1 hlt) (get_app_lt h2 (by omega))
  · have : t = kv.length := by
      have := (List.getElem?_eq_some_iff.1 h1).1
      simp at this
      omega
    rw [get_last this] at h1
    rw [get_last (by omega)] at h2
    obtain rfl := Option.some.inj h1
    obtain rfl := Option.some.inj h2
    exact hk
/-- i lists have been grown. -/
structure PGN (s : St) (p : Nat) (b : Nub) (i : Nat) (G : V) (gv : List V) (K W : V) (kv wv : List V) (lab : Nat → Option Nat) (fs : Fs) (pv : List (V × List D)) (al : List (Nat × List V)) : Prop where
  hp : Hp 1 s p [.d (.i .i64 b.count), .d (.i .i64 b.total), .d (.b false), b.F, b.H, b.M, K, W] lab fs pv al
  f1 : fs 1 = some (1, b.fr.length, b.F, b.fr.map (·.1))
  f3 : fs 3 = some (1, b.fr.length, b.M, b.ms.map fun m => .d (.i .i64 m))
  f4 : fs 4 = some (1, b.kv.length + 2 * i, K, kv)
  f5 : fs 5 = some (1, b.kv.length + 2 * i, W, wv)
  f50 : fs 50 = some (1, 4 * i, G, gv)
  gk : ∀ g ∈ gv, ∃ L, (g, L) ∈ pv ∧ L.length ≤ 10995116277760 ∧ ∀ d ∈ L, KI d
  kw : ∀ (t : Nat) k w, kv[t]? = some k → wv[t]? = some w → Pr2 pv k w
  fr : ∀ (t : Nat) x, b.fr[t]? = some x → i ≤ t → ∃ n, fs (t + 6) = some (1, n, x.1, ofDs (markN (b.ms.getD t 0) n)) ∧ n ≤ 1099511627776
  none : ∀ a, b.fr.length + 6 ≤ a → a ≠ 50 → lab a = none ∧ fs a = none
  gone : ∀ t, t < i → lab (t + 6) = Option.none ∧ fs (t + 6) = Option.none
section
variable {pr : Prog} (hp : Sub nuFns pr) {st : St} {p : Nat} {b : Nub} {al : List (Nat × List V)}
include hp
theorem loopN2 {K W : V} {kv wv : List V} {lab : Nat → Option Nat} {fs : Fs} {pv : List (V × List D)} (h : PGN st p b 0 (.d (.sl 0 false [])) [] K W kv wv lab fs pv al) (hs : b.fr.length ≤ 3 ∧ b.kv.length ≤ 900000000) (ht : 0 ≤ b.total ∧ b.total ≤ 549755813888) (hml : b.ms.length = b.fr.length) {Q : Out → Prop}
    (hQ : ∀ e s G gv K W kv wv lab fs pv, e.get 0 = some (.ptr p 0) → e.get 5 = some G → PGN s p b b.fr.length G gv K W kv wv lab fs pv al → Q (.exit 4, e, s)) : CodeW pr (.loop [0, 5, 6] false F230_spindlelaw0_Nums_write_b2) [(0, .ptr p 0), (5, .d (.sl 0 false [])), (6, .d (.i .i64 0))] st Q := by
  refine loopW_j wNu (fun n e s => ∃ i G gv K W kv wv lab fs pv, i ≤ b.fr.length ∧ n = b.fr.length - i ∧ e = [(0, .ptr p 0), (5, G), (6, .d (.i .i64 i))] ∧ PGN s p b i G gv K W kv wv lab fs pv al) ?_ (n := b.fr.length) ⟨0, _, [], K, W, kv, wv, lab, fs, pv, Nat.zero_le _, rfl, by simp, h⟩
  rintro n e s ⟨i, G, gv, K, W, kv, wv, lab, fs, pv, hi, rfl, rfl, h⟩
  have hlF := h.hp.len h.f1
  have hrow := h.hp.row
  have hk1 : kv.length = b.kv.length + 2 * i := by simpa using (h.hp.lr _ _ h.f4).1
  have hk2 : wv.length = b.kv.length + 2 * i := by simpa using (h.hp.lr _ _ h.f5).1
  rcases Nat.lt_or_ge i b.fr.length with hlt | hge
  rotate_left
  · have : i = b.fr.length := by omega
    subst this
    simp [F230_spindlelaw0_Nums_write_b2, wNu, hrow, hlF]
    exact hQ _ _ G gv K W kv wv lab fs pv (by simp) (by simp) h
  obtain ⟨x, hx⟩ : ∃ x, b.fr[i]? = some x := ⟨_, List.getElem?_eq_getElem hlt⟩
  obtain ⟨m, hm⟩ : ∃ m, b.ms[i]? = some m := ⟨_, List.getElem?_eq_getElem (by omega)⟩
  have hmi : b.ms.getD i 0 = m := by simp [List.getD, hm]
  obtain ⟨n, hfi, hn⟩ := h.fr i x hx (Nat.le_refl _)
  rw [hmi] at hfi
  obtain ⟨M, hM⟩ : ∃ M, M = markN m n := ⟨_, rfl⟩
  have hMl : M.length = n * 1 := by rw [hM, markN_len, Nat.mul_one]
  have hMk : ∀ d ∈ M, KI d := by rw [hM]; exact markN_k _ _
  rw [← hM] at hfi
  have w1 : IntKind.wrap .i64 ((i : Int) + 1) = i + 1 := wrap_i64 (by omega) (by omega)
  obtain ⟨jF, cF, hjF, b1, b2, b3, b4⟩ := h.hp.get h.f1 i (x := x.1) (by simp [hx]) (k := .i64)
  obtain ⟨jM, cM, hjM, m1, m2, m3, m4⟩ := h.hp.get h.f3 i (x := .d (.i .i64 m)) (by simp [hm]) (k := .i64)
  have n51 := h.none 51 (by omega) (by omega)
  have n53 := h.none 53 (by omega) (by omega)
  have hsep : ∀ c, c ≠ i + 6 → ∀ r, lab (i + 6) = some r → lab c ≠ some r := fun c hc r hr e => hc (h.hp.labs.sep c (i + 6) r e hr)
  have kl : ∀ z : Int, ∀ d ∈ [D.i .i64 z], KI d := fun z d hd => by simp only [List.mem_singleton] at hd; exact ⟨z, hd⟩
  have one0 := h.hp.one hfi
  obtain ⟨z1, hz1⟩ : ∃ z, z = IntKind.wrap .i64 (m + 101) := ⟨_, rfl⟩
  obtain ⟨z2, hz2⟩ : ∃ z, z = IntKind.wrap .i64 (m + 102) := ⟨_, rfl⟩
  obtain ⟨z3, hz3⟩ : ∃ z, z = IntKind.wrap .i64 (m + 103) := ⟨_, rfl⟩
  obtain ⟨z4, hz4⟩ : ∃ z, z = IntKind.wrap .i64 (m + 104) := ⟨_, rfl⟩
  obtain ⟨z5, hz5⟩ : ∃ z, z = IntKind.wrap .i64 (m + 105) := ⟨_, rfl⟩
  obtain ⟨z6, hz6⟩ : ∃ z, z = IntKind.wrap .i64 (m + 106) := ⟨_, rfl⟩
  have k2 : ∀ d ∈ [D.i .i64 z2, D.i .i64 z3], KI d := fun d hd => by
    simp only [List.mem_cons, List.not_mem_nil, or_false] at hd
    rcases hd with rfl | rfl <;> exact ⟨_, rfl⟩
  have k3 : ∀ d ∈ [D.i .i64 z4, D.i .i64 z5, D.i .i64 z6], KI d := fun d hd => by
    simp only [List.mem_cons, List.not_mem_nil, or_false] at hd
    rcases hd with rfl | rfl | rfl <;> exact ⟨_, rfl⟩
  simp [F230_spindlelaw0_Nums_write_b2, wNu, hrow, hlF, hlt, b1, b2, b3, b4, m1, m2, m3, m4, fillV, reps, lay, ofDs, ← hz1]
  refine GrwN.app0 (N := s.heap.length) (a := i + 6) (E := []) (ys := [.i .i64 z1]) (m := 1) (.inl ⟨h.hp, by simpa using h.hp.lr _ _ hfi⟩) (by omega) (by omega) hfi n51.1 rfl rfl (by omega) (kl z1) (Nat.le_refl _) ?_
  intro s1 g1 hg1 gr1
  obtain ⟨pv1, h1, sub1, go1, one1⟩ := hg1.out n51.1 n51.2
  have sm1 : SmN s1 pv1 (lab (i + 6)) g1 (n + 1) := SmN.of (p := p) go1 (by simp [hMl]) (fun d hd => by
    rw [List.append_nil] at hd
    rcases List.mem_append.1 hd with hd | hd
    · exact hMk d hd
    · exact kl z1 d hd)
  have L1 := gr1.len
  simp [wNu, fillV, reps, lay, ofDs, ← hz2, ← hz3]
  refine GrwN.app0 (N := s.heap.length) (a := i + 6) (E := []) (ys := [.i .i64 z2, .i .i64 z3]) (m := 2) (.inl ⟨h1, by simpa using h1.lr _ _ hfi⟩) (by omega) (by omega) hfi n51.1 rfl rfl (by omega) k2 (by omega) ?_
  intro s2 g2 hg2 gr2
  obtain ⟨pv2, h2, sub2, go2, one2⟩ := hg2.out n51.1 n51.2
  have sm2 : SmN s2 pv2 (lab (i + 6)) g2 (n + 2) := SmN.of (p := p) go2 (by simp [hMl]) (fun d hd => by
    rw [List.append_nil] at hd
    rcases List.mem_append.1 hd with hd | hd
    · exact hMk d hd
    · exact k2 d hd)
  have sm1 := (sm1.kind gr2 (fun _ h => h)).mono sub2
  have L2 := gr2.len
  simp [wNu, fillV, reps, lay, ofDs, ← hz4, ← hz5, ← hz6]
  refine GrwN.app0 (N := s.heap.length) (a := i + 6) (E := []) (ys := [.i .i64 z4, .i .i64 z5, .i .i64 z6]) (m := 3) (.inl ⟨h2, by simpa using h2.lr _ _ hfi⟩) (by omega) (by omega) hfi n51.1 rfl rfl (by omega) k3 (by omega) ?_
  intro s3 g3 hg3 gr3
  obtain ⟨pv3, h3, sub3, go3, one3⟩ := hg3.out n51.1 n51.2
  have sm3 : SmN s3 pv3 (lab (i + 6)) g3 (n + 3) := SmN.of (p := p) go3 (by simp [hMl]) (fun d hd => by
    rw [List.append_nil] at hd
    rcases List.mem_append.1 hd with hd | hd
    · exact hMk d hd
    · exact k3 d hd)
  have sm1 := (sm1.kind gr3 (fun _ h => h)).mono sub3
  have sm2 := (sm2.kind gr3 (fun _ h => h)).mono sub3
  have L3 := gr3.len
  have hrow3 := h3.row
  obtain ⟨jM3, cM3, hjM3, p1, p2, p3, p4⟩ := h3.get h.f3 i (x := .d (.i .i64 m)) (by simp [hm]) (k := .i64)
  obtain ⟨T, hT, hT2⟩ : ∃ T : Nat, minV (fun b a => decide (b < a)) (.d (.i .i64 b.total)) (.d (.i .i64 3000)) = some (.d (.i .i64 T)) ∧ T ≤ 3000 := by
    by_cases hle : 3000 < b.total
    · exact ⟨3000, by simp [minV, hle], by omega⟩
    · exact ⟨b.total.toNat, by
        have : ((b.total.toNat : Nat) : Int) = b.total := by omega
        simp [minV, hle, this], by omega⟩
  obtain ⟨mm, hmm⟩ : ∃ mm : Nat, mm = T + 70 := ⟨_, rfl⟩
  have hmm2 : mm ≤ 3070 := by omega
  have wm : IntKind.wrap .i64 ((T : Int) + 70) = (mm : Int) := by rw [wrap_i64 (by omega) (by omega)]; omega
  obtain ⟨z7, hz7⟩ : ∃ z, z = IntKind.wrap .i64 (m + 107) := ⟨_, rfl⟩
  have hmk := fun s => den_markedN hp (st := s) mm z7 (by omega)
  obtain ⟨MR, hMR⟩ : ∃ A, A = markN z7 mm := ⟨_, rfl⟩
  rw [← hMR] at hmk
  have hMRl : MR.length = mm := by rw [hMR, markN_len]
  have hMRk : ∀ d ∈ MR, KI d := by rw [hMR]; exact markN_k _ _
  obtain ⟨u, hu⟩ : ∃ u, u = V.d (.sl mm true MR) := ⟨_, rfl⟩
  rw [← hu] at hmk
  have hMRl1 : MR.length = mm * 1 := by omega
  simp [wNu, hrow3, p1, p2, p3, p4, hT, wm, ← hz7, hmk]
  refine loopN3 h3 (a := i + 6) (by omega) (by omega) hfi n51.1 hn hMRl hmm2 hMRk (i := i) hu ?_
  intro e4 s4 g4 q0 q5 q6 q7 q9 q10 q11 q12 q13 hg4 gr4
  obtain ⟨pv4, h4, sub4, go4, one4⟩ := hg4.out n51.1 n51.2
  have sm1 := (sm1.kind gr4 (fun _ h => h)).mono sub4
  have sm2 := (sm2.kind gr4 (fun _ h => h)).mono sub4
  have sm3 := (sm3.kind gr4 (fun _ h => h)).mono sub4
  have L4 := gr4.len
  simp [q0, q5, q6, q7, q9, q10, q11, q12, q13, wNu]
  have hvu : vwV 1 s4 u = some (mm, ofDs MR) := by rw [hu]; rfl
  refine GrwN.at5 (N := s.heap.length) h4 (a := i + 6) (by omega) hfi n51.1 hvu hMRl1 (by omega) hMRk (by omega) ?_
  intro s5 g5 hg5 gr5 same5
  obtain ⟨pv5, h5, sub5, go5, one5⟩ := hg5.out n51.1 n51.2
  obtain ⟨M4, hM4⟩ : ∃ X, X = M ++ MR := ⟨_, rfl⟩
  have lM4 : M4.length = (n + mm) * 1 := by rw [hM4, List.length_append]; omega
  have kM4 : ∀ d ∈ M4, KI d := by
    rw [hM4]
    intro d hd
    rcases List.mem_append.1 hd with hd | hd
    · exact hMk d hd
    · exact hMRk d hd
  rw [← hM4] at go4 go5 same5
  have go4 : (g4, M4) ∈ pv5 ∨ LR s5 1 g4 (n + mm) (ofDs M4) (lab (i + 6)) := go4.imp (sub5 _) fun hl => same5 g4 hl
  have sm5 : SmN s5 pv5 (lab (i + 6)) g5 (n + mm) := SmN.of (p := p) go5 lM4 kM4
  have sm1 := (sm1.kind gr5 (fun _ h => h)).mono sub5
  have sm2 := (sm2.kind gr5 (fun _ h => h)).mono sub5
  have sm3 := (sm3.kind gr5 (fun _ h => h)).mono sub5
  have L5 := gr5.len
  simp [wNu, fillV, reps, lay, ofDs, one1, one2, one3, one5]
  have hv6 : vwV 1 (s5.push (.row [g1, g2, g3, g5])) (.rsl 1 s5.heap.length 0 4 4) = some (4, [g1, g2, g3, g5]) := by simp [vwV]
  refine (h5.push _).app (a := 50) (by omega) h.f50 hv6 (by simp) rfl (by omega) (by omega) ?_
  intro s6 G' j50 h6 gr6 nw6
  have L6 := gr6.len
  simp only [push_len] at L6
  have g56 : Gr s5 s6 (fun r => lab 50 = some r) (fun _ => True) := (Gr.push _).trans (gr6.mono (fun _ _ e => e) fun _ _ => trivial)
  have kp : ∀ {g m}, SmN s5 pv5 (lab (i + 6)) g m → SmN s6 pv5 (lab (i + 6)) g m := fun sm => sm.keep g56 fun r hr e1 e => hsep 50 (by omega) r e1 e
  have sm1 := kp sm1
  have sm2 := kp sm2
  have sm3 := kp sm3
  have sm5 := kp sm5
  have go4 : (g4, M4) ∈ pv5 ∨ LR s6 1 g4 (n + mm) (ofDs M4) (lab (i + 6)) := go4.imp id fun hl => hl.gr g56 fun r hr e => hsep 50 (by omega) r hr e
  obtain ⟨lab6, hl6⟩ : ∃ l, l = upd lab 50 j50 := ⟨_, rfl⟩
  obtain ⟨fs6, hf6⟩ : ∃ l, l = updF fs 50 (some (1, 4 * i + 4, G', gv ++ [g1, g2, g3, g5])) := ⟨_, rfl⟩
  rw [← hl6, ← hf6] at h6
  have a6 : ∀ c, c ≠ 50 → lab6 c = lab c ∧ fs6 c = fs c := fun c hc => by rw [hl6, hf6, upd_ne hc, updF_ne hc]; exact ⟨rfl, rfl⟩
  obtain ⟨pv7, h7, sub7, in7, all7⟩ := protsN h6 (a := i + 6) (n := n) (by omega) (f := x.1) (M := M) ((a6 (i + 6) (by omega)).2.trans hfi) [(g1, n + 1), (g2, n + 2), (g3, n + 3), (g5, n + mm)] (fun x hx => by
    rw [(a6 (i + 6) (by omega)).1]
    simp only [List.mem_cons, List.not_mem_nil, or_false] at hx
    rcases hx with rfl | rfl | rfl | rfl
    · exact sm1
    · exact sm2
    · exact sm3
    · exact sm5)
  obtain ⟨lab7, hl7⟩ : ∃ l, l = upd lab6 (i + 6) none := ⟨_, rfl⟩
  obtain ⟨fs7, hf7⟩ : ∃ l, l = updF fs6 (i + 6) none := ⟨_, rfl⟩
  rw [← hl7, ← hf7] at h7
  have a7 : ∀ c, c ≠ 50 → c ≠ i + 6 → lab7 c = lab c ∧ fs7 c = fs c := fun c hc hc' => by rw [hl7, hf7, upd_ne hc', updF_ne hc']; exact a6 c hc
  obtain ⟨pv8, h8, sub8, in4⟩ : ∃ pv8, Hp 1 s6 p [.d (.i .i64 b.count), .d (.i .i64 b.total), .d (.b false), b.F, b.H, b.M, K, W] lab7 fs7 pv8 al ∧ (∀ x ∈ pv7, x ∈ pv8) ∧ (g4, M4) ∈ pv8 := by
    rcases go4 with e | e
    · exact ⟨pv7, h7, fun _ h => h, sub7 _ e⟩
    · have ft : foot g4 = lab6 (i + 6) := (e.lst).2.1.trans (a6 (i + 6) (by omega)).1.symm
      exact ⟨_, h7.prot (e.lst).1 (by rw [hl7]; exact h6.free ft) (fun x hx e => (h6.al x hx).2.1 (i + 6) (by rw [← ft]; exact e)), fun x hx => List.mem_cons_of_mem _ hx, List.mem_cons_self⟩
  have h9 := h8.prot (v := .d (.sl n true M)) (L := M) ⟨rfl, hMl⟩ (fun r hr => by cases hr) (fun x hx e => by cases e)
  have hlx := h.hp.len hfi
  have hmkM := fun s => den_markedN hp (st := s) n m hn
  rw [← hM] at hmkM
  have hrow9 := h9.row
  have f39 : fs7 3 = some (1, b.fr.length, b.M, b.ms.map fun m => .d (.i .i64 m)) := (a7 3 (by omega) (by omega)).2.trans h.f3
  obtain ⟨jM9, cM9, hjM9, r1, r2, r3, r4⟩ := h9.get f39 i (x := .d (.i .i64 m)) (by simp [hm]) (k := .i64)
  simp [wNu, hrow9, r1, r2, r3, r4, hlx, hmkM]
  refine callW_keepN hp h9 (n := b.kv.length + 2 * i) (kv := kv) (wv := wv) ((a7 4 (by omega) (by omega)).2.trans h.f4) ((a7 5 (by omega) (by omega)).2.trans h.f5) one0 ⟨rfl, rfl⟩ (by omega) ?_
  intro s7 K7 W7 j4 j5 h10 gr10
  obtain ⟨lab8, hl8⟩ : ∃ l, l = upd (upd lab7 4 j4) 5 j5 := ⟨_, rfl⟩
  obtain ⟨fs8, hf8⟩ : ∃ l : Fs, l = updF (updF fs7 4 (some (1, b.kv.length + 2 * i + 1, K7, kv ++ [x.1]))) 5 (some (1, b.kv.length + 2 * i + 1, W7, wv ++ [.d (.sl n true M)])) := ⟨_, rfl⟩
  rw [← hl8, ← hf8] at h10
  have a8 : ∀ c, c ≠ 4 → c ≠ 5 → lab8 c = lab7 c ∧ fs8 c = fs7 c := fun c k4 k5 => by rw [hl8, hf8, upd_ne k5, upd_ne k4, updF_ne k5, updF_ne k4]; exact ⟨rfl, rfl⟩
  have f48 : fs8 4 = some (1, b.kv.length + 2 * i + 1, K7, kv ++ [x.1]) := by rw [hf8, updF_ne (by omega), updF_eq]
  have f58 : fs8 5 = some (1, b.kv.length + 2 * i + 1, W7, wv ++ [.d (.sl n true M)]) := by rw [hf8, updF_eq]
  have n538 : lab8 53 = none ∧ fs8 53 = none := by
    rw [(a8 53 (by omega) (by omega)).1, (a8 53 (by omega) (by omega)).2, (a7 53 (by omega) (by omega)).1, (a7 53 (by omega) (by omega)).2]
    exact n53
  have hrow10 := h10.row
  obtain ⟨jM10, cM10, hjM10, t1, t2, t3, t4⟩ := h10.get ((a8 3 (by omega) (by omega)).2.trans f39) i (x := .d (.i .i64 m)) (by simp [hm]) (k := .i64)
  have hmkR := den_markedRN hp (st := s7) h10.fl n m hn
  rw [← hM] at hmkR
  simp [wNu, hrow10, t1, t2, t3, t4, hlx]
  refine CallW.of_den hmkR ?_
  simp [wNu]
  have h11 := h10.own (a := 53) (by omega) n538.1 (sz := 1) (n := n) (m := n) (c := ofDs M) (t := []) (by rw [ofDs_len]; exact hMl) (by simp) (Nat.le_refl _)
  rw [List.append_nil] at h11
  refine h11.app (a := 53) (by omega) updF_eq (x := u) (m := mm) (ys := ofDs MR) (by rw [hu]; rfl) (by rw [ofDs_len]; exact hMRl1) rfl (by omega) (by omega) ?_
  intro s8 w j53 h12 gr12 nw12
  have hc4 : ofDs M ++ ofDs MR = ofDs M4 := by rw [hM4]; simp [ofDs]
  rw [updF_updF, upd_upd, hc4] at h12
  have onew := h12.one (a := 53) updF_eq
  have h13 := h12.done (a := 53) (by omega) updF_eq
  rw [upd_upd, updF_updF, upd_off n538.1, updF_off n538.2] at h13
  simp [wNu]
  refine callW_keepN hp h13 f48 f58 one4 onew (by omega) ?_
  intro s9 K9 W9 j4' j5' h14 gr14
  simp [w1, wNu]
  have same : ∀ c, c ≠ 4 → c ≠ 5 → c ≠ 50 → c ≠ i + 6 → upd (upd lab8 4 j4') 5 j5' c = lab c ∧ updF (updF fs8 4 (some (1, b.kv.length + 2 * i + 1 + 1, K9, kv ++ [x.1] ++ [g4]))) 5 (some (1, b.kv.length + 2 * i + 1 + 1, W9, wv ++ [.d (.sl n true M)] ++ [w])) c = fs c := fun c k4 k5 k6 k7 => by
    rw [upd_ne k5, upd_ne k4, updF_ne k5, updF_ne k4, (a8 c k4 k5).1, (a8 c k4 k5).2]
    exact a7 c k6 k7
  have inP : ∀ x, x ∈ pv8 → x ∈ (w, M4) :: (V.d (.sl n true M), M) :: pv8 := fun x hx => List.mem_cons_of_mem _ (List.mem_cons_of_mem _ hx)
  have inQ : ∀ x, x ∈ pv → x ∈ pv5 := fun x hx => sub5 _ (sub4 _ (sub3 _ (sub2 _ (sub1 _ hx))))
  have arith : b.kv.length + 2 * i + 1 + 1 = b.kv.length + 2 * (i + 1) := by omega
  refine ⟨b.fr.length - (i + 1), by omega, i + 1, by omega, rfl, G', ⟨rfl, rfl⟩, gv ++ [g1, g2, g3, g5], K9, W9, kv ++ [x.1] ++ [g4], wv ++ [.d (.sl n true M)] ++ [w], _, _, _, h14, ?_, ?_, ?_, ?_, ?_, ?_, ?_, ?_, ?_, ?_⟩
  · exact (same 1 (by omega) (by omega) (by omega) (by omega)).2.trans h.f1
  · exact (same 3 (by omega) (by omega) (by omega) (by omega)).2.trans h.f3
  · rw [updF_ne (by omega), updF_eq, arith]
  · rw [updF_eq, arith]
  · rw [updF_ne (by omega), updF_ne (by omega), (a8 50 (by omega) (by omega)).2, hf7, updF_ne (by omega), hf6, updF_eq]
    rfl
  · intro g hg
    rcases List.mem_append.1 hg with hg | hg
    · obtain ⟨L, c1, c2, c3⟩ := h.gk g hg
      exact ⟨L, inP _ (sub8 _ (sub7 _ (inQ _ c1))), c2, c3⟩
    · obtain ⟨mg, hmg, hmg2⟩ : ∃ mg, (g, mg) ∈ [(g1, n + 1), (g2, n + 2), (g3, n + 3), (g5, n + mm)] ∧ mg ≤ n + 3070 := by
        simp only [List.mem_cons, List.not_mem_nil, or_false] at hg
        rcases hg with rfl | rfl | rfl | rfl
        · exact ⟨n + 1, by simp, by omega⟩
        · exact ⟨n + 2, by simp, by omega⟩
        · exact ⟨n + 3, by simp, by omega⟩
        · exact ⟨n + mm, by simp, by omega⟩
      obtain ⟨L, c1, c2, c3⟩ := all7 _ hmg
      simp only at c1 c2
      exact ⟨L, inP _ (sub8 _ c1), by omega, c3⟩
  · refine kwN_app (kwN_app (fun t k w a1 a2 => (h.kw t k w a1 a2).mono fun x hx => inP _ (sub8 _ (sub7 _ (inQ _ hx)))) (by omega) ?_) ?_ ?_
    · exact ⟨M, inP _ (sub8 _ in7), List.mem_cons_of_mem _ List.mem_cons_self, hMk, by omega⟩
    · simp; omega
    · exact ⟨M4, inP _ in4, List.mem_cons_self, kM4, by omega⟩
  · intro t y hy htt
    have htl := (List.getElem?_eq_some_iff.1 hy).1
    rw [(same (t + 6) (by omega) (by omega) (by omega) (by omega)).2]
    exact h.fr t y hy (by omega)
  · intro a ha hb
    rw [(same a (by omega) (by omega) (by omega) (by omega)).1, (same a (by omega) (by omega) (by omega) (by omega)).2]
    exact h.none a ha hb
  · intro t htt
    by_cases hti : t = i
    · subst hti
      rw [upd_ne (by omega), upd_ne (by omega), updF_ne (by omega), updF_ne (by omega), (a8 (t + 6) (by omega) (by omega)).1, (a8 (t + 6) (by omega) (by omega)).2, hl7, hf7, upd_eq, updF_eq]
      exact ⟨rfl, rfl⟩
    · rw [(same (t + 6) (by omega) (by omega) (by omega) (by omega)).1, (same (t + 6) (by omega) (by omega) (by omega) (by omega)).2]
      exact h.gone t (by omega)
end
end Go.Sh

/- Lists of numbers: what was grown at once is kept; all is written over. -/
set_option linter.unusedVariables false
set_option linter.unusedSimpArgs false
namespace Go.Sh
/-- i of the grown lists have been kept. -/
structure PGM (s : St) (p : Nat) (b : Nub) (c0 i : Nat) (G : V) (gv : List V) (K W : V) (kv wv : List V) (lab : Nat → Option Nat) (fs : Fs) (pv : List (V × List D)) (al : List (Nat × List V)) : Prop where
  hp : Hp 1 s p [.d (.i .i64 b.count), .d (.i .i64 b.total), .d (.b false), b.F, b.H, b.M, K, W] lab fs pv al
  f4 : fs 4 = some (1, c0 + i, K, kv)
  f5 : fs 5 = some (1, c0 + i, W, wv)
  f50 : fs 50 = some (1, gv.length, G, gv)
  gk : ∀ g ∈ gv, ∃ L, (g, L) ∈ pv ∧ L.length ≤ 10995116277760 ∧ ∀ d ∈ L, KI d
  kw : ∀ (t : Nat) k w, kv[t]? = some k → wv[t]? = some w → Pr2 pv k w
  none : ∀ a, 6 ≤ a → a ≠ 50 → lab a = none ∧ fs a = none
section
variable {pr : Prog} (hp : Sub nuFns pr) {st : St} {p : Nat} {b : Nub} {al : List (Nat × List V)}
include hp
theorem loopN4 {c0 : Nat} {G : V} {gv : List V} {K W : V} {kv wv : List V} {lab : Nat → Option Nat} {fs : Fs} {pv : List (V × List D)} (h : PGM st p b c0 0 G gv K W kv wv lab fs pv al) (hs : c0 ≤ 900000900) (hg : gv.length ≤ 12) {Q : Out → Prop}
    (hQ : ∀ e s K W kv wv lab fs pv, e.get 0 = some (.ptr p 0) → PGM s p b c0 gv.length G gv K W kv wv lab fs pv al → Q (.exit 8, e, s)) : CodeW pr (.loop [0, 5, 16] false F230_spindlelaw0_Nums_write_b4) [(0, .ptr p 0), (5, G), (16, .d (.i .i64 0))] st Q := by
  refine loopW_j wNu (fun n e s => ∃ i K W kv wv lab fs pv, i ≤ gv.length ∧ n = gv.length - i ∧ e = [(0, .ptr p 0), (5, G), (16, .d (.i .i64 i))] ∧ PGM s p b c0 i G gv K W kv wv lab fs pv al) ?_ (n := gv.length) ⟨0, K, W, kv, wv, lab, fs, pv, Nat.zero_le _, rfl, by simp, h⟩
  rintro n e s ⟨i, K, W, kv, wv, lab, fs, pv, hi, rfl, rfl, h⟩
  have hlG := h.hp.len h.f50
  have hk1 : kv.length = c0 + i := by simpa using (h.hp.lr _ _ h.f4).1
  have hk2 : wv.length = c0 + i := by simpa using (h.hp.lr _ _ h.f5).1
  rcases Nat.lt_or_ge i gv.length with hlt | hge
  rotate_left
  · have : i = gv.length := by omega
    subst this
    simp [F230_spindlelaw0_Nums_write_b4, wNu, hlG]
    exact hQ _ _ K W kv wv lab fs pv (by simp) h
  obtain ⟨g, hgi⟩ : ∃ g, gv[i]? = some g := ⟨_, List.getElem?_eq_getElem hlt⟩
  obtain ⟨L, hgL, hLl, hLk⟩ := h.gk g (List.mem_of_getElem? hgi)
  have w1 : IntKind.wrap .i64 ((i : Int) + 1) = i + 1 := wrap_i64 (by omega) (by omega)
  obtain ⟨jG, cG, hjG, b1, b2, b3, b4⟩ := h.hp.get h.f50 i hgi (k := .i64)
  have hgl := (h.hp.pv _ hgL).1
  have onec := hgl.one
  simp [F230_spindlelaw0_Nums_write_b4, wNu, hlG, hlt]
  refine drawn2 10 [] (by decide) (by decide) ?_
  simp [b1, b2, b3, b4]
  refine ⟨.d (.sl L.length true L), (callW_copyN hp hgl hLk hLl).mono ?_, ?_⟩
  · rintro r s ⟨rfl, n', rfl, hn'⟩
    rw [Nat.mul_one] at hn'
    rw [← hn']
    exact ⟨rfl, rfl⟩
  have h2 := h.hp.prot (v := .d (.sl L.length true L)) (L := L) ⟨rfl, by omega⟩ (fun r hr => by cases hr) (fun x hx e => by cases e)
  simp [wNu]
  refine callW_keepN hp h2 h.f4 h.f5 onec ⟨rfl, rfl⟩ (by omega) ?_
  intro s1 K' W' j4 j5 h3 g3
  simp [w1, wNu]
  have inP : ∀ x, x ∈ pv → x ∈ (V.d (.sl L.length true L), L) :: pv := fun x hx => List.mem_cons_of_mem _ hx
  refine ⟨gv.length - (i + 1), by omega, i + 1, by omega, rfl, rfl, K', W', kv ++ [g], wv ++ [.d (.sl L.length true L)], _, _, _, h3, ?_, ?_, ?_, ?_, ?_, ?_⟩
  · rw [updF_ne (by omega), updF_eq]; rfl
  · rw [updF_eq]; rfl
  · rw [updF_ne (by omega), updF_ne (by omega)]; exact h.f50
  · intro g' hg'
    obtain ⟨L', c1, c2⟩ := h.gk g' hg'
    exact ⟨L', inP _ c1, c2⟩
  · refine kwN_app (fun t k w a1 a2 => (h.kw t k w a1 a2).mono inP) (by omega) ?_
    exact ⟨L, inP _ hgL, List.mem_cons_self, hLk, by omega⟩
  · intro a ha hb
    rw [upd_ne (by omega), upd_ne (by omega), updF_ne (by omega), updF_ne (by omega)]
    exact h.none a ha hb
end
section
variable {pr : Prog} (hp : Sub nuFns pr) {st : St} {p : Nat} {b : Nub} {lab : Nat → Option Nat} {fs : Fs} {pv : List (V × List D)} {al : List (Nat × List V)}
theorem Pr2.two1 {s : St} {R : List V} {lab : Nat → Option Nat} {fs : Fs} {pv : List (V × List D)} {al : List (Nat × List V)} (h : Hp 1 s p R lab fs pv al) {k w : V} (hk : Pr2 pv k w) : ∃ L, Lst s 1 k L ∧ Lst s 1 w L ∧ (∀ d ∈ L, KI d) ∧ L.length ≤ 9223372036854775806 := by
  obtain ⟨L, h1, h2, h3, h4⟩ := hk
  exact ⟨L, (h.pv _ h1).1, (h.pv _ h2).1, h3, by omega⟩
theorem NuI.fh (h : NuI st p b lab fs pv al) : ∀ (i : Nat) f g, (b.fr.map (·.1))[i]? = some f → b.held[i]? = some g → ∃ L, Lst st 1 f L ∧ Lst st 1 g L ∧ (∀ d ∈ L, KI d) ∧ L.length ≤ 9223372036854775806 := by
  intro i f g hf hg
  simp only [List.getElem?_map, Option.map_eq_some_iff] at hf
  obtain ⟨x, hx, rfl⟩ := hf
  obtain ⟨n, f1, f2, f3⟩ := h.ff i x hx
  obtain ⟨n', f4, f5⟩ := h.hh i x g hx hg
  have hl := (h.hp.lr _ _ f1).lst
  exact ⟨x.2, hl.1, by rw [f4]; exact ⟨rfl, f5⟩, f3, by have := hl.2.2; simp only at this; omega⟩
include hp
theorem callW_HoldsT1 (h : NuI st p b lab fs pv al) : CallW pr 228 [.ptr p 0] st fun r s => s = st ∧ r = .d (.b true) := by
  have hs := h.small
  exact callW_HoldsN hp h.hp h.f1 h.f2 h.f4 h.f5 (by omega) (by omega) h.fh fun i k w hk hw => (h.kw i k w hk hw).two1 h.hp
end
end Go.Sh

/- Lists of numbers: they are written over whole. -/
set_option linter.unusedVariables false
set_option linter.unusedSimpArgs false
namespace Go.Sh
section
variable {pr : Prog} (hp : Sub nuFns pr) {st : St} {p : Nat} {b : Nub} {lab : Nat → Option Nat} {fs : Fs} {pv : List (V × List D)} {al : List (Nat × List V)}
include hp
theorem callW_writeN (h : NuI st p b lab fs pv al) (hkl : b.kv.length ≤ 899999000) {Q : V → St → Prop} (hQ : ∀ s b' lab' fs' pv', NuI s p b' lab' fs' pv' al → b'.fr = [] → b'.held = [] → b'.total = b.total → b'.count = b.count → b'.kv.length = b.kv.length + 6 * b.fr.length → Q (.tup []) s) : CallW pr 230 [.ptr p 0] st Q := by
  refine .run wNu (hp.at 8 rfl) rfl ?_
  rw [start_raw _ rfl]
  refine codeC_of ?_
  have hrow := h.hp.row
  simp only [Nub.R] at hrow
  have hsm := h.small
  simp [F230_spindlelaw0_Nums_write]
  refine (callW_untouchedN hp h.hp rfl h.f1 h.f2 (by omega) h.fh).mono ?_
  rintro v s ⟨rfl, rfl⟩
  simp [wNu]
  refine loopN1 hp h ?_
  intro e1 s1 fs1 q0 w1
  simp [q0, wNu]
  have hl50 := (h.none 50 (by omega))
  have h2 := w1.hp.nil (a := 50) (by omega) (sz := 1)
  have w2 : PGN s1 p b 0 (.d (.sl 0 false [])) [] b.K b.W b.kv b.wv (upd lab 50 none) (updF fs1 50 (some (1, 0, .d (.sl 0 false []), []))) pv al := by
    refine ⟨h2, ?_, ?_, ?_, ?_, updF_eq, fun g hg => (by cases hg), h.kw, ?_, ?_, fun t ht => absurd ht (by omega)⟩
    · rw [updF_ne (by omega), w1.same 1 (by omega)]; exact h.f1
    · rw [updF_ne (by omega), w1.same 3 (by omega)]; exact h.f3
    · rw [updF_ne (by omega), w1.same 4 (by omega)]; exact h.f4
    · rw [updF_ne (by omega), w1.same 5 (by omega)]; exact h.f5
    · intro t x hx _
      have htl := (List.getElem?_eq_some_iff.1 hx).1
      obtain ⟨n, f1, f2, _⟩ := w1.fr t x hx
      rw [if_pos htl] at f1
      exact ⟨n, by rw [updF_ne (by omega)]; exact f1, f2⟩
    · intro a ha hb
      rw [upd_ne hb, updF_ne hb, w1.same a (by omega)]
      exact h.none a ha
  refine loopN2 hp w2 hsm h.total h.msl ?_
  intro e2 s2 G gv K2 W2 kv2 wv2 lab2 fs2 pv2 r0 r5 p2
  have hgl : gv.length = 4 * b.fr.length := by simpa using (p2.hp.lr _ _ p2.f50).1
  simp [r0, r5, wNu]
  have w3 : PGM s2 p b (b.kv.length + 2 * b.fr.length) 0 G gv K2 W2 kv2 wv2 lab2 fs2 pv2 al := by
    refine ⟨p2.hp, p2.f4, p2.f5, by rw [hgl]; exact p2.f50, p2.gk, p2.kw, fun a ha hb => ?_⟩
    rcases Nat.lt_or_ge a (b.fr.length + 6) with h1 | h1
    · obtain ⟨t, rfl⟩ : ∃ t, a = t + 6 := ⟨a - 6, by omega⟩
      exact p2.gone t (by omega)
    · exact p2.none a h1 hb
  refine loopN4 hp w3 (by omega) (by omega) ?_
  intro e3 s3 K W kv wv lab3 fs3 pv3 u0 p3
  have hrow3 := p3.hp.row
  have hk1 : kv.length = b.kv.length + 2 * b.fr.length + gv.length := by simpa using (p3.hp.lr _ _ p3.f4).1
  have hset3 : ∀ cs, s3.setBlk p (.row cs) = some (s3.put p cs) := fun cs => setBlk_put p3.hp.fl
  have h4 := p3.hp.drop (a := 50) (by omega)
  obtain ⟨h5, g5⟩ := h4.put (R' := [.d (.i .i64 b.count), .d (.i .i64 b.total), .d (.b false), .d (.sl 0 false []), b.H, b.M, K, W]) rfl
  have hrow5 := h5.row
  have hset5 : ∀ cs ds, (s3.put p cs).setBlk p (.row ds) = some (s3.put p ds) := fun cs ds => by rw [setBlk_put (by rw [put_floor]; exact p3.hp.fl), put_put]
  obtain ⟨h6, g6⟩ := h5.put (R' := [.d (.i .i64 b.count), .d (.i .i64 b.total), .d (.b false), .d (.sl 0 false []), .d (.sl 0 false []), b.M, K, W]) rfl
  rw [put_put] at h6
  have hrow6 := h6.row
  obtain ⟨h7, g7⟩ := h6.put (R' := [.d (.i .i64 b.count), .d (.i .i64 b.total), .d (.b false), .d (.sl 0 false []), .d (.sl 0 false []), .d (.sl 0 false []), K, W]) rfl
  rw [put_put] at h7
  have hrow7 := h7.row
  simp [u0, wNu, hrow3, hset3, lay, hrow5, hset5, hrow6, hrow7]
  obtain ⟨s6, hs6⟩ : ∃ s6, s6 = s3.put p [.d (.i .i64 b.count), .d (.i .i64 b.total), .d (.b false), .d (.sl 0 false []), .d (.sl 0 false []), .d (.sl 0 false []), K, W] := ⟨_, rfl⟩
  rw [← hs6] at h7 ⊢
  refine (callW_sameAllN hp h7 rfl (by rw [updF_ne (by omega)]; exact p3.f4) (by rw [updF_ne (by omega)]; exact p3.f5) (by omega) fun i k w hk hw => (p3.kw i k w hk hw).two1 h7).mono ?_
  rintro v s ⟨rfl, rfl⟩
  have hset8 : s.setBlk p (.row [.d (.i .i64 b.count), .d (.i .i64 b.total), .d (.b false), .d (.sl 0 false []), .d (.sl 0 false []), .d (.sl 0 false []), K, W]) = some s := by rw [setBlk_put h7.fl, put_self h7.row]
  have hrow8 := h7.row
  simp [hrow8, lay, hset8, FinW]
  have h8 := ((h7.nil (a := 1) (by omega) (sz := 1)).nil (a := 2) (by omega) (sz := 1)).nil (a := 3) (by omega) (sz := 1)
  refine hQ s ⟨b.count, b.total, .d (.sl 0 false []), .d (.sl 0 false []), .d (.sl 0 false []), K, W, [], [], [], kv, wv⟩ _ _ pv3 ⟨h8, ?_, ?_, ?_, ?_, ?_, fun i x hx => (by cases hx), fun i x y hx => (by cases hx), p3.kw, ?_, ⟨by simp, by simp; omega⟩, h.total⟩ rfl rfl rfl rfl (by simp; omega)
  · rw [updF_ne (by omega), updF_ne (by omega), updF_eq]; rfl
  · rw [updF_ne (by omega), updF_eq]; rfl
  · rw [updF_eq]; rfl
  · rw [updF_ne (by omega), updF_ne (by omega), updF_ne (by omega), updF_ne (by omega), p3.f4]; simp only [hk1]
  · rw [updF_ne (by omega), updF_ne (by omega), updF_ne (by omega), updF_ne (by omega), p3.f5]; simp only [hk1]
  · intro a ha
    have ha : 6 ≤ a := by simpa using ha
    rw [upd_ne (by omega), upd_ne (by omega), upd_ne (by omega), updF_ne (by omega), updF_ne (by omega), updF_ne (by omega)]
    by_cases h50 : a = 50
    · subst h50; rw [upd_eq, updF_eq]; exact ⟨rfl, rfl⟩
    rw [upd_ne h50, updF_ne h50]
    exact p3.none a ha h50
end
end Go.Sh

/- Lists of numbers: a list more is handed in. -/
set_option linter.unusedVariables false
set_option linter.unusedSimpArgs false
namespace Go.Sh
section
variable {pr : Prog} (hp : Sub nuFns pr) {st : St} {p : Nat} {b : Nub} {lab : Nat → Option Nat} {fs : Fs} {pv : List (V × List D)} {al : List (Nat × List V)}
include hp
theorem callW_OwnN (h : NuI st p b lab fs pv al) (hfr : b.fr.length ≤ 2) {l : V} {n : Nat} {L : List D} {j : Option Nat} (hl : LR st 1 l n (ofDs L) j) (hj : Lone st lab pv al (b.fr.length + 6) j) (hLk : ∀ d ∈ L, KI d) (hn : n ≤ 1099511627776) (ht : b.total + n ≤ 549755813888) (hkl : b.kv.length ≤ 899998000) {mark : Int} {Q : V → St → Prop}
    (hQ : ∀ s b' lab' fs' pv', NuI s p b' lab' fs' pv' al → b'.fr.length ≤ 2 → b'.total = b.total + n → b'.kv.length ≤ b.kv.length + 18 → Q (.tup []) s) : CallW pr 226 [.ptr p 0, l, .d (.i .i64 mark)] st Q := by
  refine .run wNu (hp.at 9 rfl) rfl ?_
  rw [start_raw _ rfl]
  refine codeC_of ?_
  have hrow := h.hp.row
  simp only [Nub.R] at hrow
  have htot := h.total
  have hml := h.msl
  have hla := (h.none (b.fr.length + 6) (Nat.le_refl _)).1
  have hll := hl.len
  have hLl : L.length = n * 1 := (hl.lst).2.2
  have h0 := h.hp.set (a := b.fr.length + 6) (by omega) hj hl (fun c hc r hr e => by
    rcases (hj r hr).2 with e1 | ⟨e1, _⟩
    · rw [hla] at e1; cases e1
    · exact e1 c e)
  have wt : IntKind.wrap .i64 (b.total + n) = b.total + n := wrap_i64 (by omega) (by omega)
  obtain ⟨c1, hc1⟩ : ∃ c1, c1 = IntKind.wrap .i64 (b.count + 1) := ⟨_, rfl⟩
  have hset : ∀ cs, st.setBlk p (.row cs) = some (st.put p cs) := fun cs => setBlk_put h.hp.fl
  have hset2 : ∀ cs ds, (st.put p cs).setBlk p (.row ds) = some (st.put p ds) := fun cs ds => by rw [setBlk_put (by rw [put_floor]; exact h.hp.fl), put_put]
  have hrow2 : ∀ cs, (st.put p cs).row p = some cs := fun cs => row_put_eq (row_lt hrow)
  obtain ⟨h1, g1⟩ := h0.put (R' := [.d (.i .i64 c1), .d (.i .i64 (b.total + n)), .d (.b false), b.F, b.H, b.M, b.K, b.W]) rfl
  obtain ⟨s1, hs1⟩ : ∃ s1, s1 = st.put p [.d (.i .i64 c1), .d (.i .i64 (b.total + n)), .d (.b false), b.F, b.H, b.M, b.K, b.W] := ⟨_, rfl⟩
  rw [← hs1] at h1 g1
  have hrow1 := h1.row
  have hpl1 := row_lt hrow1
  have hv1 := vwV_lit s1 l
  have hl1 := h1.one (a := b.fr.length + 6) updF_eq
  simp [F226_spindlelaw0_Nums_Own, wNu, hrow, hset, hset2, hrow2, lay, hll, wt, ← hc1, ← hs1, hrow1, fillV, reps, ofDs, hl1, hpl1]
  refine (h1.push _).app (a := 1) (by omega) (by rw [updF_ne (by omega)]; exact h.f1) hv1 (by simp) rfl (by have := h.small; omega) (by have := h.small; omega) ?_
  intro s2 F' j1 h2 g2 n2
  have hrow2 := h2.row
  have hset2 : ∀ cs, s2.setBlk p (.row cs) = some (s2.put p cs) := fun cs => setBlk_put h2.fl
  have hF1 := h2.one (a := 1) updF_eq
  obtain ⟨h3, g3⟩ := h2.put (R' := [.d (.i .i64 c1), .d (.i .i64 (b.total + n)), .d (.b false), F', b.H, b.M, b.K, b.W]) rfl
  obtain ⟨s3, hs3⟩ : ∃ s3, s3 = s2.put p [.d (.i .i64 c1), .d (.i .i64 (b.total + n)), .d (.b false), F', b.H, b.M, b.K, b.W] := ⟨_, rfl⟩
  rw [← hs3] at h3 g3
  have hrow3 := h3.row
  simp [hrow2, hset2, lay, hF1, ← hs3]
  have hlst := ((h3.lr (b.fr.length + 6) (1, n, l, ofDs L) (by rw [updF_ne (by omega), updF_eq])).lst).1
  refine drawn2 8 [0] (by decide) (by decide) ?_
  simp [hrow3]
  refine ⟨.d (.sl n true L), (callW_copyN hp hlst hLk (by omega)).mono ?_, ?_⟩
  · rintro r s ⟨rfl, n', rfl, hn'⟩
    rw [Nat.mul_one] at hn' hLl
    rw [← hn', hLl]
    exact ⟨rfl, rfl⟩
  simp [fillV, reps, ofDs, lay]
  refine h3.app (a := 2) (by omega) (by rw [updF_ne (by omega), updF_ne (by omega)]; exact h.f2) (show vwV 1 s3 (.d (.sl 1 true [D.sl n true L])) = some (1, ofDs [D.sl n true L]) from rfl) (by simp [ofDs]) rfl (by have := h.small; omega) (by have := h.small; omega) ?_
  intro s4 H' j2 h4 g4 n4
  have hrow4 := h4.row
  have hset4 : ∀ cs, s4.setBlk p (.row cs) = some (s4.put p cs) := fun cs => setBlk_put h4.fl
  have hH1 := h4.one (a := 2) updF_eq
  obtain ⟨h5, g5⟩ := h4.put (R' := [.d (.i .i64 c1), .d (.i .i64 (b.total + n)), .d (.b false), F', H', b.M, b.K, b.W]) rfl
  obtain ⟨s5, hs5⟩ : ∃ s5, s5 = s4.put p [.d (.i .i64 c1), .d (.i .i64 (b.total + n)), .d (.b false), F', H', b.M, b.K, b.W] := ⟨_, rfl⟩
  rw [← hs5] at h5 g5
  have hrow5 := h5.row
  simp [hrow4, hset4, lay, hH1, ← hs5]
  obtain ⟨mk, hmk⟩ : ∃ mk, mk = IntKind.wrap .i64 (mark + IntKind.wrap .i64 (31 * c1)) := ⟨_, rfl⟩
  refine drawn2 13 [0] (by decide) (by decide) ?_
  simp [hrow5, fillV, reps, lay, ofDs, ← hmk]
  refine h5.app (a := 3) (by omega) (by rw [updF_ne (by omega), updF_ne (by omega), updF_ne (by omega)]; exact h.f3) (show vwV 1 s5 (.d (.sl 1 true [D.i .i64 mk])) = some (1, ofDs [D.i .i64 mk]) from rfl) (by simp [ofDs]) rfl (by have := h.small; omega) (by have := h.small; omega) ?_
  intro s6 M' j3 h6 g6 n6
  have hrow6 := h6.row
  have hset6 : ∀ cs, s6.setBlk p (.row cs) = some (s6.put p cs) := fun cs => setBlk_put h6.fl
  have hM1 := h6.one (a := 3) updF_eq
  obtain ⟨h7, g7⟩ := h6.put (R' := [.d (.i .i64 c1), .d (.i .i64 (b.total + n)), .d (.b false), F', H', M', b.K, b.W]) rfl
  obtain ⟨s7, hs7⟩ : ∃ s7, s7 = s6.put p [.d (.i .i64 c1), .d (.i .i64 (b.total + n)), .d (.b false), F', H', M', b.K, b.W] := ⟨_, rfl⟩
  rw [← hs7] at h7 g7
  have hrow7 := h7.row
  have hhl : b.held.length = b.fr.length := by simpa using (h.hp.lr _ _ h.f2).1
  obtain ⟨labF, hlabF⟩ : ∃ labF, labF = upd (upd (upd (upd lab (b.fr.length + 6) j) 1 j1) 2 j2) 3 j3 := ⟨_, rfl⟩
  obtain ⟨fsF, hfsF⟩ : ∃ fsF : Fs, fsF = updF (updF (updF (updF fs (b.fr.length + 6) (some (1, n, l, ofDs L))) 1 (some (1, b.fr.length + 1, F', b.fr.map (·.1) ++ [l]))) 2 (some (1, b.fr.length + 1, H', b.held ++ ofDs [D.sl n true L]))) 3 (some (1, b.fr.length + 1, M', (b.ms.map fun m => V.d (.i .i64 m)) ++ ofDs [D.i .i64 mk])) := ⟨_, rfl⟩
  rw [← hlabF, ← hfsF] at h7
  have hI : NuI s7 p ⟨c1, b.total + n, F', H', M', b.K, b.W, b.fr ++ [(l, L)], b.held ++ [.d (.sl n true L)], b.ms ++ [mk], b.kv, b.wv⟩ labF fsF pv al := by
    rw [hlabF, hfsF] at h7 ⊢
    refine ⟨h7, ?_, ?_, ?_, ?_, ?_, ?_, ?_, h.kw, ?_, ⟨by simp; omega, h.small.2⟩, ⟨by show 0 ≤ b.total + (n : Int); omega, ht⟩⟩
    · rw [updF_ne (by omega), updF_ne (by omega), updF_eq]; simp
    · rw [updF_ne (by omega), updF_eq]; simp [ofDs]
    · rw [updF_eq]; simp [ofDs]
    · rw [updF_ne (by omega), updF_ne (by omega), updF_ne (by omega), updF_ne (by omega)]; exact h.f4
    · rw [updF_ne (by omega), updF_ne (by omega), updF_ne (by omega), updF_ne (by omega)]; exact h.f5
    · intro i x hx
      have hx : (b.fr ++ [(l, L)])[i]? = some x := hx
      rcases Nat.lt_or_ge i b.fr.length with hi | hi
      · obtain ⟨n', f1, f2, f3⟩ := h.ff i x (get_app_lt hx hi)
        exact ⟨n', by rw [updF_ne (by omega), updF_ne (by omega), updF_ne (by omega), updF_ne (by omega)]; exact f1, f2, f3⟩
      · have hil := (List.getElem?_eq_some_iff.1 hx).1
        rw [List.length_append, List.length_singleton] at hil
        have : i = b.fr.length := by omega
        subst this
        rw [get_last rfl] at hx
        obtain rfl := Option.some.inj hx
        exact ⟨n, by rw [updF_ne (by omega), updF_ne (by omega), updF_ne (by omega), updF_eq], hn, hLk⟩
    · intro i x y hx hy
      have hx : (b.fr ++ [(l, L)])[i]? = some x := hx
      have hy : (b.held ++ [.d (.sl n true L)])[i]? = some y := hy
      rcases Nat.lt_or_ge i b.fr.length with hi | hi
      · exact h.hh i x y (get_app_lt hx hi) (get_app_lt hy (by omega))
      · have hil := (List.getElem?_eq_some_iff.1 hx).1
        rw [List.length_append, List.length_singleton] at hil
        have : i = b.fr.length := by omega
        subst this
        rw [get_last rfl] at hx
        rw [get_last hhl.symm] at hy
        obtain rfl := Option.some.inj hx
        obtain rfl := Option.some.inj hy
        exact ⟨n, rfl, hLl⟩
    · intro a ha
      have ha : (b.fr ++ [(l, L)]).length + 6 ≤ a := ha
      rw [List.length_append, List.length_singleton] at ha
      rw [upd_ne (by omega), upd_ne (by omega), upd_ne (by omega), upd_ne (by omega), updF_ne (by omega), updF_ne (by omega), updF_ne (by omega), updF_ne (by omega)]
      exact h.none a (by omega)
  have hlF7 := h7.len (a := 1) (v := F') (n := b.fr.length + 1) (by rw [hfsF, updF_ne (by omega), updF_ne (by omega), updF_eq])
  have kW : CallW pr 230 [.ptr p 0] s7 fun r s => r = .tup [] ∧ ∃ b' lab' fs' pv', NuI s p b' lab' fs' pv' al ∧ b'.fr.length ≤ 2 ∧ b'.total = b.total + n ∧ b'.kv.length ≤ b.kv.length + 18 := by
    refine callW_writeN hp hI (by show b.kv.length ≤ _; omega) ?_
    intro s8 b' lab' fs' pv' hI' e1 e2 e3 e4 e5
    refine ⟨rfl, b', lab', fs', pv', hI', by rw [e1]; simp, e3, ?_⟩
    rw [e5]
    show b.kv.length + 6 * (b.fr ++ [(l, L)]).length ≤ _
    rw [List.length_append, List.length_singleton]
    omega
  simp [hrow6, hset6, lay, hM1, ← hs7, hrow7, hlF7]
  by_cases hc : 3 ≤ b.fr.length + 1
  · have hcI : (3 : Int) ≤ (b.fr.length : Int) + 1 := by omega
    simp [hc, hcI, wNu]
    refine kW.mono ?_
    rintro _ s8 ⟨rfl, b', lab', fs', pv', hI', e1, e2, e3⟩
    simp [wNu, FinW]
    exact hQ _ b' lab' fs' pv' hI' e1 e2 e3
  · have hcI : ¬ (3 : Int) ≤ (b.fr.length : Int) + 1 := by omega
    have stay : ∃ b' lab' fs' pv', NuI s7 p b' lab' fs' pv' al ∧ b'.fr.length ≤ 2 ∧ b'.total = b.total + n ∧ b'.kv.length ≤ b.kv.length + 18 := ⟨_, _, _, _, hI, by show (b.fr ++ [(l, L)]).length ≤ 2; rw [List.length_append, List.length_singleton]; omega, rfl, by show b.kv.length ≤ _; omega⟩
    by_cases h1 : b.fr.length = 0
    · have h1I : (b.fr.length : Int) + 1 = 1 := by omega
      by_cases hq : c1.tmod 4 = 0
      · simp [hc, hcI, h1, h1I, hq, wNu, hrow7, hlF7]
        refine kW.mono ?_
        rintro _ s8 ⟨rfl, b', lab', fs', pv', hI', e1, e2, e3⟩
        simp [wNu, FinW]
        exact hQ _ b' lab' fs' pv' hI' e1 e2 e3
      · obtain ⟨b', lab', fs', pv', hI', e1, e2, e3⟩ := stay
        simp [hc, hcI, h1, h1I, hq, wNu, hrow7, hlF7, FinW]
        exact hQ _ b' lab' fs' pv' hI' e1 e2 e3
    · have h1I : ¬ (b.fr.length : Int) + 1 = 1 := by omega
      obtain ⟨b', lab', fs', pv', hI', e1, e2, e3⟩ := stay
      simp [hc, hcI, h1, h1I, wNu, hrow7, hlF7, FinW]
      exact hQ _ b' lab' fs' pv' hI' e1 e2 e3
end
end Go.Sh
