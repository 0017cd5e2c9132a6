/- Shelves of instructions: the lists are written over. -/
import Derived.Test.YtnemobbnlacmjaaDoorShLshI1
set_option linter.unusedVariables false
set_option linter.unusedSimpArgs false
namespace Go.Sh
theorem Lst.vwD {st : St} {sz : Nat} {v : V} {L : List D} (h : Lst st sz v L) : ∃ n, Go.Sh.vw sz st v = some (n, L) ∧ L.length = n * sz ∧ lenV v = some n := by
  cases v with
  | d d =>
    cases d with
    | sl n nz cs => obtain ⟨rfl, h⟩ := h; exact ⟨n, rfl, h, rfl⟩
    | _ => exact h.elim
  | rsl s id off n cap =>
    obtain ⟨rfl, rfl, h3, c, h4, h5, h6⟩ := h
    refine ⟨n, ?_, h3, rfl⟩
    simp only [Go.Sh.vw, if_true, cellsAt, h4, Nat.zero_add, h5, List.drop_zero, h6, toDs_of, Option.map_some]
  | _ => exact h.elim
/-- copy, over a label's list. -/
theorem Hp.cpy {SZ : Nat} {s : St} {p : Nat} {R : List V} {lab : Nat → Option Nat} {fs : Fs} {pv : List (V × List D)} {al : List (Nat × List V)} (h : Hp SZ s p R lab fs pv al) {a n sz : Nat} (ha : a ≠ 0) {v x : V} {L M : List D} (hf : fs a = some (sz, n, v, ofDs L)) (hx : Go.Sh.vw sz s x = some (n, M)) (hM : M.length = n * sz) :
    ∃ s', cpyV sz s v x = some (.d (.i .i64 (n : Int)), s') ∧ Hp SZ s' p R lab (updF fs a (some (sz, n, v, ofDs M))) pv al ∧ Gr s s' (fun r => lab a = some r) (fun _ => True) := by
  have hl := h.lr a _ hf
  obtain ⟨h0, ⟨h1, hv, hn⟩ | ⟨j0, cap, tail, h1, hv, hc, hrow, ht⟩⟩ := hl
  · simp only at hv hn h0
    subst hv
    subst hn
    have e1 : L = [] := List.eq_nil_of_length_eq_zero (by rw [ofDs_len] at h0; omega)
    have e2 : M = [] := List.eq_nil_of_length_eq_zero (by omega)
    subst e1
    subst e2
    refine ⟨s, by simp [cpyV, hx], ?_, .refl _ _ _⟩
    rw [← hf, updF_self]
    exact h
  · simp only at hv h0 hc hrow ht
    subst hv
    rw [ofDs_len] at h0
    have hmin : min n n * sz = M.length := by rw [Nat.min_self]; omega
    have hlay : lay (ofDs L ++ tail) 0 (ofDs (M.take (min n n * sz))) = ofDs M ++ tail := by
      rw [hmin, List.take_length]
      unfold lay
      rw [List.take_zero, List.nil_append, Nat.zero_add, ofDs_len, List.drop_left' (by rw [ofDs_len]; omega)]
    have hfit : n * sz ≤ L.length + tail.length := by omega
    have g : Gr s (s.put j0 (ofDs M ++ tail)) (fun r => lab a = some r) (fun _ => True) := .put hrow (by simp [ofDs_len]; omega) h1 fun _ _ _ => .inr trivial
    refine ⟨s.put j0 (ofDs M ++ tail), ?_, ?_, g⟩
    · rw [Nat.min_self] at hlay
      simp [cpyV, hrow, hx, hM, ofDs_len, hfit, hlay, setBlk_put h.fl]
    · have hh := h.at ha g (sz := sz) (n := n) (v := .rsl sz j0 0 n cap) (c := ofDs M) (j := lab a) ⟨by rw [ofDs_len]; omega, .inr ⟨j0, cap, tail, h1, rfl, hc, by rw [row_put_eq (row_lt hrow)], by omega⟩⟩ (.inl rfl)
      rwa [upd_self] at hh
theorem get_app {α : Type} {l : List α} {i : Nat} {x y : α} (h : l[i]? = some x) : (l ++ [y])[i]? = some x := by
  rw [List.getElem?_append_left (List.getElem?_eq_some_iff.1 h).1]
  exact h
theorem get_last {α : Type} {l : List α} {n : Nat} {y : α} (h : n = l.length) : (l ++ [y])[n]? = some y := by
  subst h
  rw [List.getElem?_append_right (Nat.le_refl _), Nat.sub_self]
  rfl
theorem get_app_lt {α : Type} {l : List α} {i : Nat} {x y : α} (h : (l ++ [y])[i]? = some x) (hi : i < l.length) : l[i]? = some x := by
  rwa [List.getElem?_append_left hi] at h
/-- Two lists that hold the same, and stay. -/
def Pr2 (pv : List (V × List D)) (k w : V) : Prop := ∃ L, (k, L) ∈ pv ∧ (w, L) ∈ pv ∧ (∀ d ∈ L, KI d) ∧ L.length ≤ 54975581388800
theorem Pr2.mono {pv pv' : List (V × List D)} {k w : V} (h : Pr2 pv k w) (hs : ∀ x ∈ pv, x ∈ pv') : Pr2 pv' k w := by
  obtain ⟨L, h1, h2, h3⟩ := h
  exact ⟨L, hs _ h1, hs _ h2, h3⟩
/-- What a shelf holds. -/
structure Shb where
  mark : Int
  total : Int
  F : V
  H : V
  K : V
  W : V
  fr : List (V × List D)
  held : List V
  kv : List V
  wv : List V
def Shb.R (b : Shb) : List V := [.d (.i .i64 b.mark), .d (.i .i64 b.total), .d (.b false), b.F, b.H, b.K, b.W]
structure ShI (s : St) (p : Nat) (b : Shb) (lab : Nat → Option Nat) (fs : Fs) (pv : List (V × List D)) (al : List (Nat × List V)) : Prop where
  hp : Hp 5 s p b.R lab fs pv al
  f1 : fs 1 = some (1, b.fr.length, b.F, b.fr.map (·.1))
  f2 : fs 2 = some (1, b.fr.length, b.H, b.held)
  f4 : fs 4 = some (1, b.kv.length, b.K, b.kv)
  f5 : fs 5 = some (1, b.kv.length, b.W, b.wv)
  ff : ∀ (i : Nat) x, b.fr[i]? = some x → ∃ n, fs (i + 6) = some (5, n, x.1, ofDs x.2) ∧ n ≤ 1099511627776 ∧ ∀ d ∈ x.2, KI d
  hh : ∀ (i : Nat) x h, b.fr[i]? = some x → b.held[i]? = some h → ∃ n, h = .d (.sl n true x.2) ∧ x.2.length = n * 5
  kw : ∀ (i : Nat) k w, b.kv[i]? = some k → b.wv[i]? = some w → Pr2 pv k w
  none : ∀ a, b.fr.length + 6 ≤ a → lab a = none ∧ fs a = none
  small : b.fr.length ≤ 3 ∧ b.kv.length ≤ 900000000
  total : 0 ≤ b.total ∧ b.total ≤ 549755813888
/-- A shelf while it is written over: i1 lists have been, i2 have grown. -/
structure PW (s : St) (p : Nat) (b : Shb) (i1 i2 : Nat) (mk : Int) (K W : V) (kv wv : List V) (lab : Nat → Option Nat) (fs : Fs) (pv : List (V × List D)) (al : List (Nat × List V)) : Prop where
  hp : Hp 5 s p [.d (.i .i64 mk), .d (.i .i64 b.total), .d (.b false), .d (.sl 0 false []), .d (.sl 0 false []), K, W] lab fs pv al
  f1 : fs 1 = some (1, b.fr.length, b.F, b.fr.map (·.1))
  f4 : fs 4 = some (1, b.kv.length + i1 + i2, K, kv)
  f5 : fs 5 = some (1, b.kv.length + i1 + i2, W, wv)
  old : ∀ (t : Nat) k w, t < b.kv.length → kv[t]? = some k → wv[t]? = some w → Pr2 pv k w
  fr : ∀ (t : Nat) x, b.fr[t]? = some x → ∃ M n, fs (t + 6) = some (5, n, x.1, ofDs M) ∧ n ≤ 1099511627776 ∧ (∀ d ∈ M, KI d) ∧ (t < i1 → kv[b.kv.length + t]? = some x.1 ∧ ∃ w, wv[b.kv.length + t]? = some w ∧ (w, M) ∈ pv)
  few : ∀ t, t < i2 → ∃ g w L, kv[b.kv.length + i1 + t]? = some g ∧ wv[b.kv.length + i1 + t]? = some w ∧ (w, L) ∈ pv ∧ (∀ d ∈ L, KI d) ∧ L.length ≤ 54975581388800 ∧ ((g, L) ∈ pv ∨ ∃ n, LR s 5 g n (ofDs L) (lab (t + 6)))
  none : ∀ a, b.fr.length + 6 ≤ a → lab a = none ∧ fs a = none
theorem PW.klen {s : St} {p : Nat} {b : Shb} {i1 i2 : Nat} {mk : Int} {K W : V} {kv wv : List V} {lab : Nat → Option Nat} {fs : Fs} {pv : List (V × List D)} {al : List (Nat × List V)} (h : PW s p b i1 i2 mk K W kv wv lab fs pv al) : kv.length = b.kv.length + i1 + i2 ∧ wv.length = b.kv.length + i1 + i2 :=
  ⟨by simpa using (h.hp.lr _ _ h.f4).1, by simpa using (h.hp.lr _ _ h.f5).1⟩
section
variable {pr : Prog} (hp : Sub shiFns pr) {st : St} {p : Nat} {b : Shb} {al : List (Nat × List V)}
include hp
theorem loopI1 {mk : Int} {K W : V} {kv wv : List V} {lab : Nat → Option Nat} {fs : Fs} {pv : List (V × List D)} (h : PW st p b 0 0 mk K W kv wv lab fs pv al) (hs : b.fr.length ≤ 3 ∧ b.kv.length ≤ 900000000) {Q : Out → Prop}
    (hQ : ∀ e s mk K W kv wv lab fs pv, e.get 0 = some (.ptr p 0) → e.get 2 = some b.F → PW s p b b.fr.length 0 mk K W kv wv lab fs pv al → Q (.exit 0, e, s)) : CodeW pr (.loop [0, 2, 3] false F218_spindlelaw3_Shelf_write_b0) [(0, .ptr p 0), (2, b.F), (3, .d (.i .i64 0))] st Q := by
  refine loopW_j wSh (fun n e s => ∃ i mk K W kv wv lab fs pv, i ≤ b.fr.length ∧ n = b.fr.length - i ∧ e = [(0, .ptr p 0), (2, b.F), (3, .d (.i .i64 i))] ∧ PW s p b i 0 mk K W kv wv lab fs pv al) ?_ (n := b.fr.length) ⟨0, mk, K, W, kv, wv, lab, fs, pv, Nat.zero_le _, rfl, by simp, h⟩
  rintro n e s ⟨i, mk, K, W, kv, wv, lab, fs, pv, hi, rfl, rfl, h⟩
  have hlF := h.hp.len h.f1
  obtain ⟨hk1, hk2⟩ := h.klen
  rcases Nat.lt_or_ge i b.fr.length with hlt | hge
  rotate_left
  · have : i = b.fr.length := by omega
    subst this
    simp [F218_spindlelaw3_Shelf_write_b0, wSh, hlF]
    exact hQ _ _ mk K W kv wv lab fs pv (by simp) (by simp) h
  obtain ⟨x, hx⟩ : ∃ x, b.fr[i]? = some x := ⟨_, List.getElem?_eq_getElem hlt⟩
  obtain ⟨L, n, hfi, hn, hLk, _⟩ := h.fr i x hx
  obtain ⟨jF, cF, hjF, a1, a2, a3, a4⟩ := h.hp.get h.f1 i (x := x.1) (by simp [hx]) (k := .i64)
  have hlx := h.hp.len hfi
  have w1 : IntKind.wrap .i64 ((i : Int) + 1) = i + 1 := wrap_i64 (by omega) (by omega)
  simp [F218_spindlelaw3_Shelf_write_b0, wSh, hlF, hlt, a1, a2, a3, a4, hlx]
  refine callW_someI hp h.hp n hn (a := 50) (by omega) (h.none 50 (by omega)).1 ?_
  intro s1 mk1 v j M h1 hMk hMl g1 hj
  obtain ⟨jF1, cF1, hjF1, b1, b2, b3, b4⟩ := h1.get (a := 1) (by rw [updF_ne (by omega)]; exact h.f1) i (x := x.1) (by simp [hx]) (k := .i64)
  have hMv : Go.Sh.vw 5 s1 v = some (n, M) := by
    obtain ⟨n', q1, q2, _⟩ := ((h1.lr 50 _ updF_eq).lst).1.vwD
    have : n' = n := by omega
    rw [this] at q1
    exact q1
  obtain ⟨s2, c1, h2, g2⟩ := h1.cpy (a := i + 6) (by omega) (by rw [updF_ne (by omega)]; exact hfi) hMv hMl
  simp [F218_spindlelaw3_Shelf_write_b0, wSh, b1, b2, b3, b4, c1]
  obtain ⟨jF2, cF2, hjF2, d1, d2, d3, d4⟩ := h2.get (a := 1) (by rw [updF_ne (by omega), updF_ne (by omega)]; exact h.f1) i (x := x.1) (by simp [hx]) (k := .i64)
  have h3 := h2.done (a := 50) (by omega) (v := v) (L := M) (n := n) (by rw [updF_ne (by omega), updF_eq])
  rw [upd_upd] at h3
  have hone := h2.one (a := i + 6) updF_eq
  have honev := h2.one (a := 50) (v := v) (by rw [updF_ne (by omega), updF_eq])
  obtain rfl : jF1 = jF2 := Option.some.inj (hjF1.symm.trans hjF2)
  simp [d2, d3, d4]
  refine callW_keepI hp h3 (n := b.kv.length + i + 0) (by rw [updF_ne (by omega), updF_ne (by omega), updF_ne (by omega)]; exact h.f4) (by rw [updF_ne (by omega), updF_ne (by omega), updF_ne (by omega)]; exact h.f5) hone honev (by omega) ?_
  intro s3 K' W' j4 j5 h4 g4
  simp [w1]
  refine ⟨b.fr.length - (i + 1), by omega, i + 1, by omega, rfl, rfl, mk1, K', W', kv ++ [x.1], wv ++ [v], _, _, _, h4, ?_, ?_, ?_, ?_, ?_, fun t ht => absurd ht (by omega), ?_⟩
  · rw [updF_ne (by omega), updF_ne (by omega), updF_ne (by omega), updF_ne (by omega), updF_ne (by omega)]; exact h.f1
  · rw [updF_ne (by omega), updF_eq, show b.kv.length + i + 0 + 1 = b.kv.length + (i + 1) + 0 by omega]
  · rw [updF_eq, show b.kv.length + i + 0 + 1 = b.kv.length + (i + 1) + 0 by omega]
  · intro t k w ht e1 e2
    exact (h.old t k w ht (get_app_lt e1 (by omega)) (get_app_lt e2 (by omega))).mono fun x hx => List.mem_cons_of_mem _ hx
  · intro t y hy
    by_cases hti : t = i
    · subst hti
      rw [hx] at hy
      obtain rfl := Option.some.inj hy
      refine ⟨M, n, by rw [updF_ne (by omega), updF_ne (by omega), updF_ne (by omega), updF_eq], hn, hMk, fun _ => ⟨get_last (by omega), v, get_last (by omega), List.mem_cons_self⟩⟩
    · have htl := (List.getElem?_eq_some_iff.1 hy).1
      obtain ⟨M', n', f1, f2, f3, f4⟩ := h.fr t y hy
      refine ⟨M', n', ?_, f2, f3, fun ht => ?_⟩
      · rw [updF_ne (by omega), updF_ne (by omega), updF_ne (by omega), updF_ne (by omega), updF_ne (by omega)]; exact f1
      · obtain ⟨f5, w, f6, f7⟩ := f4 (by omega)
        exact ⟨get_app f5, w, get_app f6, List.mem_cons_of_mem _ f7⟩
  · intro a ha
    rw [upd_ne (by omega), upd_ne (by omega), updF_ne (by omega), updF_ne (by omega)]
    by_cases h50 : a = 50
    · subst h50; rw [upd_eq, updF_eq]; exact ⟨rfl, rfl⟩
    · rw [upd_ne h50, updF_ne h50, updF_ne (by omega), updF_ne h50]; exact h.none a ha
end
end Go.Sh
