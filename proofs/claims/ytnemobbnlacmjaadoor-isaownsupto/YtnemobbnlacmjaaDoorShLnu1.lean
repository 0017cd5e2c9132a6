/- Lists of numbers that were handed out (spindlelaw0.Nums): what looks at them, what is kept. -/
import Derived.Test.YtnemobbnlacmjaaDoorShShelfB
import Derived.Test.YtnemobbnlacmjaaDoorShFlaw0
set_option linter.unusedVariables false
set_option linter.unusedSimpArgs false
namespace Go.Sh
def nuFns : List (Nat × SFn) := [(16, F16_spindlelaw0_SameInts), (231, F231_spindlelaw0_Nums_untouched), (232, F232_spindlelaw0_Nums_same), (228, F228_spindlelaw0_Nums_Holds), (234, F234_spindlelaw0_Nums_keep), (233, F233_spindlelaw0_markedInts), (235, F235_spindlelaw0_markedInts_own), (229, F229_spindlelaw0_CopyInts), (230, F230_spindlelaw0_Nums_write), (226, F226_spindlelaw0_Nums_Own)]
def wNu : Nat → Bool := fun f => f == 16 || f == 228 || f == 226 || f == 231 || f == 232 || f == 230 || f == 234 || f == 235 || f == 229
def iq (x : Int) : List D := [.i .i64 x]
theorem intL_of : ∀ (n : Nat) (L : List D), (∀ d ∈ L, KI d) → L.length = n * 1 → ∃ ss : List Int, L = (ss.map iq).flatten ∧ ss.length = n
  | 0, L, _, hl => ⟨[], List.eq_nil_of_length_eq_zero (by omega), rfl⟩
  | n + 1, L, hk, hl => by
    match L, hk, hl with
    | a :: r, hk, hl =>
      obtain ⟨a, rfl⟩ := hk a (by simp)
      obtain ⟨is, h1, h2⟩ := intL_of n r (fun x hx => hk x (by simp [hx])) (by simp at hl; omega)
      exact ⟨a :: is, by rw [h1]; rfl, by simp [h2]⟩
    | [], _, hl => simp at hl
section
variable {pr : Prog} (hp : Sub nuFns pr) {st : St} {p : Nat}
include hp
theorem den_sameN {v w : V} {as : List Int} (hv : SlC 1 v (as.map iq)) (hw : SlC 1 w (as.map iq)) (ha : as.length ≤ 9223372036854775806) : den pr 16 [v, w] st = some (.d (.b true), st) := by
  obtain ⟨u, hc, hu⟩ := hv.close
  obtain ⟨u', hc', hu'⟩ := hw.close
  refine den_shut (hp.at 0 rfl) rfl rfl (by simp [hc, hc']; rfl) ?_
  have hl := hu.len
  have hl' := hu'.len
  rw [List.length_map] at hl hl'
  simp [F16_spindlelaw0_SameInts, hl, hl']
  generalize hL : cden pr (.loop _ _ _) _ _ = o
  obtain ⟨r, rfl, hQ⟩ : ∃ r, o = some r ∧ ∃ e, r = (.exit 0, e, s0 [] [] 0 0) := by
    rw [← hL]
    refine loop_n as.length (fun i => [(0, u), (1, u'), (5, .d (.i .i64 i))]) (fun _ => s0 [] [] 0 0) ?_ (by simp) rfl
    intro i hi
    rcases Nat.lt_or_ge i as.length with hlt | hge
    · obtain ⟨x, hx⟩ : ∃ x, as[i]? = some x := ⟨_, List.getElem?_eq_getElem hlt⟩
      have h1 : IntKind.wrap .i64 ((i : Int) + 1) = i + 1 := wrap_i64 (by omega) (by omega)
      have hia := hu.iaddr (i := (i : Int)) (k := .i64) (by omega) (by simp; omega)
      have hia' := hu'.iaddr (i := (i : Int)) (k := .i64) (by omega) (by simp; omega)
      have hld := fun st => hu.load (st := st) (i := i) (o := 0) (n := 1) (agg := false) (el := iq x) (by simp [hx]) (by omega) (by simp [iq])
      have hld' := fun st => hu'.load (st := st) (i := i) (o := 0) (n := 1) (agg := false) (el := iq x) (by simp [hx]) (by omega) (by simp [iq])
      simp [iq, ofDs] at hld hld' hia hia'
      simp [F16_spindlelaw0_SameInts_b0, hl, hlt, hia, hia', hld, hld', h1]
    · have : i = as.length := by omega
      subst this
      simp [F16_spindlelaw0_SameInts_b0, hl]
  obtain ⟨e, rfl⟩ := hQ
  simp
theorem callW_sameN {v w : V} {L : List D} (h : Lst st 1 v L) (h' : Lst st 1 w L) (hk : ∀ d ∈ L, KI d) (hl : L.length ≤ 9223372036854775806) : CallW pr 16 [v, w] st fun r s => s = st ∧ r = .d (.b true) := by
  obtain ⟨n, nz, hs, hn⟩ := h.see 0
  obtain ⟨n', nz', hs', hn'⟩ := h'.see 0
  have hnn : n = n' := by omega
  subst hnn
  obtain ⟨is, rfl, hi⟩ := intL_of n L hk hn
  have e1 : ∀ x ∈ is.map iq, x.length = 1 := fun x hx => by obtain ⟨y, _, rfl⟩ := List.mem_map.1 hx; rfl
  have hden := den_sameN hp (st := st0) (v := .d (.sl n nz (is.map iq).flatten)) (w := .d (.sl n nz' (is.map iq).flatten)) (as := is) (.of_sl e1 (by simp [hi]) rfl) (.of_sl e1 (by simp [hi]) rfl) (by omega)
  refine .seen (k := 1) (seeA_two hs hs') (CallW.of_den hden ?_)
  simp [FreshR, FreshV, D.flat, pushO, V.flat]
theorem callW_untouchedN {R : List V} {lab : Nat → Option Nat} {fs : Fs} {pv : List (V × List D)} {al : List (Nat × List V)} {c t F H M K W : V} {n : Nat} {fv hv : List V} (h : Hp 1 st p R lab fs pv al) (hR : R = [c, t, .d (.b false), F, H, M, K, W]) (f1 : fs 1 = some (1, n, F, fv)) (f2 : fs 2 = some (1, n, H, hv)) (hn : n ≤ 1000000000)
    (hh : ∀ (i : Nat) f g, fv[i]? = some f → hv[i]? = some g → ∃ L, Lst st 1 f L ∧ Lst st 1 g L ∧ (∀ d ∈ L, KI d) ∧ L.length ≤ 9223372036854775806) : CallW pr 231 [.ptr p 0] st fun r s => s = st ∧ r = .tup [] := by
  subst hR
  refine .run wNu (hp.at 1 rfl) rfl ?_
  rw [start_raw _ rfl]
  refine codeC_of ?_
  have hrow := h.row
  have hlF := h.len f1
  have hcF : fv.length = n := by simpa using (h.lr _ _ f1).1
  have hcH : hv.length = n := by simpa using (h.lr _ _ f2).1
  have hset : st.setBlk p (.row [c, t, .d (.b false), F, H, M, K, W]) = some st := by rw [setBlk_put h.fl, put_self hrow]
  simp [F231_spindlelaw0_Nums_untouched]
  refine loopW_j wNu (fun n' e s => ∃ i, i ≤ n ∧ n' = n - i ∧ e = [(0, .ptr p 0), (2, .d (.i .i64 i))] ∧ s = st) ?_ (n := n) ⟨0, Nat.zero_le _, rfl, by simp, rfl⟩
  rintro n' e s ⟨i, hi, rfl, rfl, rfl⟩
  rcases Nat.lt_or_ge i n with hlt | hge
  · obtain ⟨f, hf⟩ : ∃ f, fv[i]? = some f := ⟨_, List.getElem?_eq_getElem (by omega)⟩
    obtain ⟨g, hg⟩ : ∃ g, hv[i]? = some g := ⟨_, List.getElem?_eq_getElem (by omega)⟩
    obtain ⟨L, l1, l2, l3, l4⟩ := hh i f g hf hg
    obtain ⟨jF, cF, _, a1, a2, a3, a4⟩ := h.get f1 i hf (k := .i64)
    obtain ⟨jH, cH, _, b1, b2, b3, b4⟩ := h.get f2 i hg (k := .i64)
    have h1 : IntKind.wrap .i64 ((i : Int) + 1) = i + 1 := wrap_i64 (by omega) (by omega)
    have hq := callW_sameN hp l1 l2 l3 l4
    simp [F231_spindlelaw0_Nums_untouched_b0, wNu, hrow, hlF, hlt]
    refine drawn2 25 [] (by decide) (by decide) ?_
    simp [hrow, a1, a2, a3, a4, b1, b2, b3, b4]
    refine ⟨_, hq.mono (fun r s hr => ⟨hr.2, hr.1⟩), ?_⟩
    simp [hrow, lay, hset, h1]
    exact ⟨n - (i + 1), by omega, i + 1, by omega, rfl, rfl⟩
  · have : i = n := by omega
    subst this
    simp [F231_spindlelaw0_Nums_untouched_b0, wNu, hrow, hlF, FinW]
theorem callW_sameAllN {R : List V} {lab : Nat → Option Nat} {fs : Fs} {pv : List (V × List D)} {al : List (Nat × List V)} {c t F H M K W : V} {n : Nat} {fv hv : List V} (h : Hp 1 st p R lab fs pv al) (hR : R = [c, t, .d (.b false), F, H, M, K, W]) (f1 : fs 4 = some (1, n, K, fv)) (f2 : fs 5 = some (1, n, W, hv)) (hn : n ≤ 1000000000)
    (hh : ∀ (i : Nat) f g, fv[i]? = some f → hv[i]? = some g → ∃ L, Lst st 1 f L ∧ Lst st 1 g L ∧ (∀ d ∈ L, KI d) ∧ L.length ≤ 9223372036854775806) : CallW pr 232 [.ptr p 0] st fun r s => s = st ∧ r = .d (.b true) := by
  subst hR
  refine .run wNu (hp.at 2 rfl) rfl ?_
  rw [start_raw _ rfl]
  refine codeC_of ?_
  have hrow := h.row
  have hlF := h.len f1
  have hcF : fv.length = n := by simpa using (h.lr _ _ f1).1
  have hcH : hv.length = n := by simpa using (h.lr _ _ f2).1
  have hset : st.setBlk p (.row [c, t, .d (.b false), F, H, M, K, W]) = some st := by rw [setBlk_put h.fl, put_self hrow]
  simp [F232_spindlelaw0_Nums_same]
  refine loopW_j wNu (fun n' e s => ∃ i, i ≤ n ∧ n' = n - i ∧ e = [(0, .ptr p 0), (3, .d (.i .i64 i))] ∧ s = st) ?_ (n := n) ⟨0, Nat.zero_le _, rfl, by simp, rfl⟩
  rintro n' e s ⟨i, hi, rfl, rfl, rfl⟩
  rcases Nat.lt_or_ge i n with hlt | hge
  · obtain ⟨f, hf⟩ : ∃ f, fv[i]? = some f := ⟨_, List.getElem?_eq_getElem (by omega)⟩
    obtain ⟨g, hg⟩ : ∃ g, hv[i]? = some g := ⟨_, List.getElem?_eq_getElem (by omega)⟩
    obtain ⟨L, l1, l2, l3, l4⟩ := hh i f g hf hg
    obtain ⟨jF, cF, _, a1, a2, a3, a4⟩ := h.get f1 i hf (k := .i64)
    obtain ⟨jH, cH, _, b1, b2, b3, b4⟩ := h.get f2 i hg (k := .i64)
    have h1 : IntKind.wrap .i64 ((i : Int) + 1) = i + 1 := wrap_i64 (by omega) (by omega)
    have hq := callW_sameN hp l1 l2 l3 l4
    simp [F232_spindlelaw0_Nums_same_b0, wNu, hrow, hlF, hlt]
    refine drawn2 16 [] (by decide) (by decide) ?_
    simp [hrow, a1, a2, a3, a4, b1, b2, b3, b4]
    refine ⟨_, hq.mono (fun r s hr => ⟨hr.2, hr.1⟩), ?_⟩
    simp [hrow, lay, hset, h1]
    exact ⟨n - (i + 1), by omega, i + 1, by omega, rfl, rfl⟩
  · have : i = n := by omega
    subst this
    simp [F232_spindlelaw0_Nums_same_b0, wNu, hrow, hlF, FinW]
end
section
variable {pr : Prog} (hp : Sub nuFns pr) {st : St} {p : Nat} {lab : Nat → Option Nat} {fs : Fs} {pv : List (V × List D)} {al : List (Nat × List V)}
include hp
theorem callW_HoldsN {c t F H M K W : V} {n n' : Nat} {fv hv kv wv : List V} (h : Hp 1 st p [c, t, .d (.b false), F, H, M, K, W] lab fs pv al) (f1 : fs 1 = some (1, n, F, fv)) (f2 : fs 2 = some (1, n, H, hv)) (f4 : fs 4 = some (1, n', K, kv)) (f5 : fs 5 = some (1, n', W, wv)) (hn : n ≤ 1000000000) (hn' : n' ≤ 1000000000)
    (hh : ∀ (i : Nat) f g, fv[i]? = some f → hv[i]? = some g → ∃ L, Lst st 1 f L ∧ Lst st 1 g L ∧ (∀ d ∈ L, KI d) ∧ L.length ≤ 9223372036854775806)
    (hk : ∀ (i : Nat) f g, kv[i]? = some f → wv[i]? = some g → ∃ L, Lst st 1 f L ∧ Lst st 1 g L ∧ (∀ d ∈ L, KI d) ∧ L.length ≤ 9223372036854775806) : CallW pr 228 [.ptr p 0] st fun r s => s = st ∧ r = .d (.b true) := by
  refine .run wNu (hp.at 3 rfl) rfl ?_
  rw [start_raw _ rfl]
  refine codeC_of ?_
  have hrow := h.row
  simp [F228_spindlelaw0_Nums_Holds, wNu]
  refine (callW_untouchedN hp h rfl f1 f2 hn hh).mono ?_
  rintro r s ⟨rfl, rfl⟩
  simp [wNu, hrow]
  refine (callW_sameAllN hp h rfl f4 f5 hn' hk).mono ?_
  rintro r s ⟨rfl, rfl⟩
  simp [FinW]
/-- A list more is kept. -/
theorem callW_keepN {c t bad F H M K W k w : V} {n : Nat} {kv wv : List V} (h : Hp 1 st p [c, t, bad, F, H, M, K, W] lab fs pv al) (f4 : fs 4 = some (1, n, K, kv)) (f5 : fs 5 = some (1, n, W, wv)) (hk : k.ok1 = true ∧ k.cs = [k]) (hw : w.ok1 = true ∧ w.cs = [w]) (hn : n ≤ 1000000000) {Q : V → St → Prop}
    (hQ : ∀ s K' W' j4 j5, Hp 1 s p [c, t, bad, F, H, M, K', W'] (upd (upd lab 4 j4) 5 j5) (updF (updF fs 4 (some (1, n + 1, K', kv ++ [k]))) 5 (some (1, n + 1, W', wv ++ [w]))) pv al → Gr st s (fun r => r = p ∨ lab 4 = some r ∨ lab 5 = some r) (fun _ => True) → Q (.tup []) s) : CallW pr 234 [.ptr p 0, k, w] st Q := by
  refine .run wNu (hp.at 4 rfl) rfl ?_
  rw [start_raw _ rfl]
  refine codeC_of ?_
  have hrow := h.row
  have hpl := row_lt hrow
  have hv := vwV_lit st k
  simp [F234_spindlelaw0_Nums_keep, hrow, hpl, fillV, reps, ofDs, hk, lay, hv]
  refine (h.push _).app (a := 4) (by omega) f4 hv (by simp) rfl (by omega) (by omega) ?_
  intro s1 K1 j4 h1 g1 n1
  have hfl1 : s1.floor = 0 := h1.fl
  have hrow1 := h1.row
  have hset1 : ∀ cs, s1.setBlk p (.row cs) = some (s1.put p cs) := fun cs => setBlk_put hfl1
  obtain ⟨h2, g2⟩ := h1.put (R' := [c, t, bad, F, H, M, K1, W]) rfl
  have hk1 := h1.one (a := 4) (updF_eq)
  obtain ⟨s2, hs2⟩ : ∃ s2, s2 = s1.put p [c, t, bad, F, H, M, K1, W] := ⟨_, rfl⟩
  rw [← hs2] at h2 g2
  have hrow2 := h2.row
  have hpl2 := row_lt hrow2
  have hv2 := vwV_lit s2 w
  simp [hrow1, hset1, lay, hk1, ← hs2, hrow2, hpl2, fillV, reps, ofDs, hw]
  refine (h2.push _).app (a := 5) (by omega) (by rw [updF_ne (by omega)]; exact f5) hv2 (by simp) rfl (by omega) (by omega) ?_
  intro s3 W1 j5 h3 g3 n3
  have hrow3 := h3.row
  have hset3 : ∀ cs, s3.setBlk p (.row cs) = some (s3.put p cs) := fun cs => setBlk_put h3.fl
  obtain ⟨h4, g4⟩ := h3.put (R' := [c, t, bad, F, H, M, K1, W1]) rfl
  have hw1 := h3.one (a := 5) (updF_eq)
  simp [hrow3, hset3, lay, hw1, FinW]
  have L1 := g1.len
  have L2 := g2.len
  simp only [push_len] at L1
  refine hQ _ K1 W1 j4 j5 h4 ?_
  refine (Gr.push _).trans ((g1.mono (fun r _ e => .inr (.inl e)) fun _ _ => trivial).trans ((g2.mono (fun r _ e => .inl e) fun _ _ => trivial).trans ((Gr.push _).trans ((g3.mono (fun r hr e => ?_) fun _ _ => trivial).trans (g4.mono (fun r _ e => .inl e) fun _ _ => trivial)))))
  rw [upd_ne (by omega)] at e
  exact .inr (.inr e)
end
end Go.Sh

/- Lists of numbers: marks, copies. -/
set_option linter.unusedVariables false
set_option linter.unusedSimpArgs false
namespace Go.Sh
def markI (mark : Int) (i : Nat) : D := .i .i64 (IntKind.wrap .i64 (IntKind.wrap .i64 (mark + IntKind.wrap .i64 (7 * (i : Int))) + 1))
/-- What a list of so many places holds when it is full of marks. -/
def markN (mark : Int) (k : Nat) : List D := (List.range k).map (markI mark)
theorem markN_len (mark : Int) (k : Nat) : (markN mark k).length = k := by simp [markN]
theorem markN_k (mark : Int) (k : Nat) : ∀ d ∈ markN mark k, KI d := by
  intro d hd
  simp only [markN, List.mem_map] at hd
  obtain ⟨i, _, rfl⟩ := hd
  exact ⟨_, rfl⟩
theorem markN_succ (mark : Int) (k : Nat) : markN mark (k + 1) = markN mark k ++ [markI mark k] := by simp [markN, List.range_succ]
def mrowN (mark : Int) (k i : Nat) : List V := ofDs (markN mark i) ++ List.replicate (k - i) (.d (.i .i64 0))
theorem mrowN_len (mark : Int) {k i : Nat} (h : i ≤ k) : (mrowN mark k i).length = k := by
  simp [mrowN, ofDs_len, markN_len]
  omega
theorem mrowN_set (mark : Int) {k i : Nat} (h : i < k) : lay (mrowN mark k i) i [.d (markI mark i)] = mrowN mark k (i + 1) := by
  have hl : (ofDs (markN mark i)).length = i := by rw [ofDs_len, markN_len]
  unfold lay mrowN
  rw [List.take_left' hl, List.drop_append, List.drop_of_length_le (by rw [hl]; simp), List.nil_append, markN_succ]
  simp only [List.length_cons, List.length_nil, hl, List.drop_replicate]
  rw [show k - i - (i + (0 + 1) - i) = k - (i + 1) by omega]
  simp [ofDs]
theorem mrowN_zero (mark : Int) (k : Nat) : ofDs (reps k [D.i .i64 0]) = mrowN mark k 0 := by simp [mrowN, markN, ofDs, reps]
theorem mrowN_all (mark : Int) (k : Nat) : mrowN mark k k = ofDs (markN mark k) := by simp [mrowN]
section
variable {pr : Prog} (hp : Sub nuFns pr) {st : St}
include hp
theorem den_markedN (k : Nat) (mark : Int) (hk : k ≤ 1099511627776) : den pr 233 [.d (.i .i64 k), .d (.i .i64 mark)] st = some (.d (.sl k true (markN mark k)), st) := by
  refine den_shut (hp.at 5 rfl) rfl rfl (by simp; rfl) ?_
  have hr : room 8 (.d (.i .i64 (k : Int))) = some k := by
    simp [room]
    omega
  simp [F233_spindlelaw0_markedInts, hr]
  rw [mrowN_zero mark]
  generalize hL : cden pr (.loop _ _ _) _ _ = o
  obtain ⟨r, rfl, hQ⟩ : ∃ r, o = some r ∧ ∃ e, r = (.exit 0, e, s0 [.row (mrowN mark k k)] [] 0 0) ∧ e.get 5 = some (.rsl 1 0 0 k k) := by
    rw [← hL]
    refine loop_n k (fun i => [(0, .d (.i .i64 k)), (1, .d (.i .i64 mark)), (5, .rsl 1 0 0 k k), (6, .d (.i .i64 i))]) (fun i => s0 [.row (mrowN mark k i)] [] 0 0) ?_ (by simp) rfl
    intro i hi
    rcases Nat.lt_or_ge i k with h | h
    · have h1 : IntKind.wrap .i64 ((i : Int) + 1) = i + 1 := wrap_i64 (by omega) (by omega)
      have hia := iaddr_row (size := 1) (sz := 1) (id := 0) (off := 0) (cap := k) (k := .i64) h
      simp at hia
      have hset := mrowN_set mark h
      have hlen := mrowN_len mark hi
      unfold markI at hset
      have hik : i + 1 ≤ k := h
      simp [F233_spindlelaw0_markedInts_b0, h, h1, hia, hlen, hset, hik]
    · have : i = k := by omega
      simp [F233_spindlelaw0_markedInts_b0, this]
  obtain ⟨e, rfl, h5⟩ := hQ
  have hl : (ofDs (markN mark k)).length = k := by rw [ofDs_len, markN_len]
  have htk : (ofDs (markN mark k)).take k = ofDs (markN mark k) := List.take_of_length_le (by omega)
  simp [h5, mrowN_all, cellsAt, hl, htk, toDs_of]
/-- The same, in a row. -/
theorem den_markedRN (hfl : st.floor = 0) (k : Nat) (mark : Int) (hk : k ≤ 1099511627776) : den pr 235 [.d (.i .i64 k), .d (.i .i64 mark)] st = some (.rsl 1 st.heap.length 0 k k, st.push (.row (ofDs (markN mark k)))) := by
  rw [den_fn (hp.at 6 rfl) rfl rfl, start_raw _ rfl]
  have hr : room 8 (.d (.i .i64 (k : Int))) = some k := by
    simp [room]
    omega
  simp [F235_spindlelaw0_markedInts_own, hr]
  rw [mrowN_zero mark]
  generalize hL : cden pr (.loop _ _ _) _ _ = o
  obtain ⟨r, rfl, hQ⟩ : ∃ r, o = some r ∧ ∃ e, r = (.exit 0, e, st.push (.row (mrowN mark k k))) ∧ e.get 5 = some (.rsl 1 st.heap.length 0 k k) := by
    rw [← hL]
    refine loop_n k (fun i => [(0, .d (.i .i64 k)), (1, .d (.i .i64 mark)), (5, .rsl 1 st.heap.length 0 k k), (6, .d (.i .i64 i))]) (fun i => st.push (.row (mrowN mark k i))) ?_ (by simp) rfl
    intro i hi
    rcases Nat.lt_or_ge i k with h | h
    · have h1 : IntKind.wrap .i64 ((i : Int) + 1) = i + 1 := wrap_i64 (by omega) (by omega)
      have hia := iaddr_row (size := 1) (sz := 1) (id := st.heap.length) (off := 0) (cap := k) (k := .i64) h
      simp at hia
      have hset := mrowN_set mark h
      have hlen := mrowN_len mark hi
      unfold markI at hset
      have hik : i + 1 ≤ k := h
      simp [F235_spindlelaw0_markedInts_own_b0, h, h1, hia, hlen, hset, hfl, hik]
    · have : i = k := by omega
      simp [F235_spindlelaw0_markedInts_own_b0, this]
  obtain ⟨e, rfl, h5⟩ := hQ
  simp [h5, mrowN_all]
omit hp in
theorem raw_copyN {n : Nat} {nz : Bool} {L : List D} (hn : L.length = n * 1) (hl : L.length ≤ 10995116277760) : RawD pr F229_spindlelaw0_CopyInts [.d (.sl n nz L)] fun v s => v = .own 1 n true L 0 ∧ s.tips[0]? = some n := by
  refine .of ?_
  have h1 : n * 8 ≤ 140737488355328 := by omega
  have h2 : n ≤ 140737488355328 := by omega
  have h3 : L.length = n := by omega
  simp [F229_spindlelaw0_CopyInts, fillV, reps, ofDs, appV, vw, h1, h2, h3]
/-- A copy, as data. -/
theorem callW_copyN {v : V} {L : List D} (h : Lst st 1 v L) (hk : ∀ d ∈ L, KI d) (hl : L.length ≤ 10995116277760) : CallW pr 229 [v] st fun r s => s = st ∧ ∃ n, r = .d (.sl n true L) ∧ L.length = n * 1 := by
  obtain ⟨n, nz, hs, hn⟩ := h.see 0
  refine .seen (k := 1) (as := [.d (.sl n nz L)]) (by simp only [seeA, hs]) (((raw_copyN hn (by omega)).callW (hp.at 7 rfl) rfl).mono ?_)
  rintro v s ⟨rfl, ht⟩
  have hfl : L.all D.flat = true := List.all_eq_true.2 fun d hd => by obtain ⟨z, rfl⟩ := hk d hd; rfl
  simp only [FreshR, FreshV, ht, hfl, hn, true_and, Nat.mul_one]
  exact .inl ⟨rfl, n, rfl, rfl⟩
end
end Go.Sh

/- Lists of numbers: they are written over. -/
set_option linter.unusedVariables false
set_option linter.unusedSimpArgs false
namespace Go.Sh
/-- What is kept of lists of numbers. -/
structure Nub where
  count : Int
  total : Int
  F : V
  H : V
  M : V
  K : V
  W : V
  fr : List (V × List D)
  held : List V
  ms : List Int
  kv : List V
  wv : List V
def Nub.R (b : Nub) : List V := [.d (.i .i64 b.count), .d (.i .i64 b.total), .d (.b false), b.F, b.H, b.M, b.K, b.W]
structure NuI (s : St) (p : Nat) (b : Nub) (lab : Nat → Option Nat) (fs : Fs) (pv : List (V × List D)) (al : List (Nat × List V)) : Prop where
  hp : Hp 1 s p b.R lab fs pv al
  f1 : fs 1 = some (1, b.fr.length, b.F, b.fr.map (·.1))
  f2 : fs 2 = some (1, b.fr.length, b.H, b.held)
  f3 : fs 3 = some (1, b.fr.length, b.M, b.ms.map fun m => .d (.i .i64 m))
  f4 : fs 4 = some (1, b.kv.length, b.K, b.kv)
  f5 : fs 5 = some (1, b.kv.length, b.W, b.wv)
  ff : ∀ (i : Nat) x, b.fr[i]? = some x → ∃ n, fs (i + 6) = some (1, n, x.1, ofDs x.2) ∧ n ≤ 1099511627776 ∧ ∀ d ∈ x.2, KI d
  hh : ∀ (i : Nat) x h, b.fr[i]? = some x → b.held[i]? = some h → ∃ n, h = .d (.sl n true x.2) ∧ x.2.length = n * 1
  kw : ∀ (i : Nat) k w, b.kv[i]? = some k → b.wv[i]? = some w → Pr2 pv k w
  none : ∀ a, b.fr.length + 6 ≤ a → lab a = none ∧ fs a = none
  small : b.fr.length ≤ 3 ∧ b.kv.length ≤ 900000000
  total : 0 ≤ b.total ∧ b.total ≤ 549755813888
theorem NuI.msl {s : St} {p : Nat} {b : Nub} {lab : Nat → Option Nat} {fs : Fs} {pv : List (V × List D)} {al : List (Nat × List V)} (h : NuI s p b lab fs pv al) : b.ms.length = b.fr.length := by simpa using (h.hp.lr _ _ h.f3).1
/-- A list, written over up to k. -/
def mixN (A L : List D) (k : Nat) : List D := A.take k ++ L.drop k
theorem mixN_lay {A L : List D} {k : Nat} {x : D} (hl : A.length = L.length) (h : A[k]? = some x) : lay (ofDs (mixN A L k)) k (ofDs [x]) = ofDs (mixN A L (k + 1)) := by
  have hk := (List.getElem?_eq_some_iff.1 h).1
  have e1 : mixN A L k = A.take k ++ ((L.drop k).take 1 ++ L.drop (k + 1)) := by
    unfold mixN
    congr 1
    conv => lhs; rw [← List.take_append_drop 1 (L.drop k)]
    rw [List.drop_drop]
  have e2 : mixN A L (k + 1) = A.take k ++ ([x] ++ L.drop (k + 1)) := by
    unfold mixN
    rw [List.take_add_one, h, Option.toList, List.append_assoc]
  have ht : (ofDs (A.take k)).length = k := by rw [ofDs_len, List.length_take]; omega
  have h1 : ((L.drop k).take 1).length = 1 := by rw [List.length_take, List.length_drop]; omega
  rw [e1, e2]
  unfold lay
  rw [show ofDs (A.take k ++ ((L.drop k).take 1 ++ L.drop (k + 1))) = ofDs (A.take k) ++ (ofDs ((L.drop k).take 1) ++ ofDs (L.drop (k + 1))) by simp [ofDs], List.take_left' ht, ← List.append_assoc, List.drop_left' (by rw [List.length_append, ht, ofDs_len, h1, ofDs_len]; rfl)]
  simp [ofDs]
section
variable {pr : Prog} (hp : Sub nuFns pr) {st : St} {p : Nat} {b : Nub} {al : List (Nat × List V)} {lab : Nat → Option Nat} {fs : Fs} {pv : List (V × List D)}
/-- The lists are written over: i have been. -/
structure PN (s : St) (p : Nat) (b : Nub) (i : Nat) (lab : Nat → Option Nat) (fs fs' : Fs) (pv : List (V × List D)) (al : List (Nat × List V)) : Prop where
  hp : Hp 1 s p b.R lab fs' pv al
  same : ∀ a, (a < 6 ∨ b.fr.length + 6 ≤ a) → fs' a = fs a
  fr : ∀ (t : Nat) x, b.fr[t]? = some x → ∃ n, fs' (t + 6) = some (1, n, x.1, ofDs (if t < i then markN (b.ms.getD t 0) n else x.2)) ∧ n ≤ 1099511627776 ∧ x.2.length = n
include hp
theorem loopN1 (h : NuI st p b lab fs pv al) {Q : Out → Prop} (hQ : ∀ e s fs', e.get 0 = some (.ptr p 0) → PN s p b b.fr.length lab fs fs' pv al → Q (.exit 0, e, s)) :
    CodeW pr (.loop [0, 2] false F230_spindlelaw0_Nums_write_b0) [(0, .ptr p 0), (2, .d (.i .i64 0))] st Q := by
  have hsm := h.small
  have hml := h.msl
  refine loopW_j wNu (fun n e s => ∃ i fs', i ≤ b.fr.length ∧ n = b.fr.length - i ∧ e = [(0, .ptr p 0), (2, .d (.i .i64 i))] ∧ PN s p b i lab fs fs' pv al) ?_ (n := b.fr.length) ⟨0, fs, Nat.zero_le _, rfl, by simp, h.hp, fun _ _ => rfl, fun t x hx => by
    obtain ⟨n, f1, f2, f3⟩ := h.ff t x hx
    have := ((h.hp.lr _ _ f1).lst).2.2
    exact ⟨n, by rw [if_neg (by omega)]; exact f1, f2, by simpa using this⟩⟩
  rintro n e s ⟨i, fs', hi, rfl, rfl, hw⟩
  have hrow := hw.hp.row
  simp only [Nub.R] at hrow
  have hf1 : fs' 1 = some (1, b.fr.length, b.F, b.fr.map (·.1)) := (hw.same 1 (by omega)).trans h.f1
  have hf3 : fs' 3 = some (1, b.fr.length, b.M, b.ms.map fun m => .d (.i .i64 m)) := (hw.same 3 (by omega)).trans h.f3
  have hlF := hw.hp.len hf1
  rcases Nat.lt_or_ge i b.fr.length with hlt | hge
  rotate_left
  · have : i = b.fr.length := by omega
    subst this
    simp [F230_spindlelaw0_Nums_write_b0, wNu, hrow, hlF]
    exact hQ _ _ fs' (by simp) hw
  obtain ⟨x, hx⟩ : ∃ x, b.fr[i]? = some x := ⟨_, List.getElem?_eq_getElem hlt⟩
  obtain ⟨m, hm⟩ : ∃ m, b.ms[i]? = some m := ⟨_, List.getElem?_eq_getElem (by omega)⟩
  have hmi : b.ms.getD i 0 = m := by simp [List.getD, hm]
  obtain ⟨n, hfi, hn, hxl⟩ := hw.fr i x hx
  rw [if_neg (by omega)] at hfi
  have w1 : IntKind.wrap .i64 ((i : Int) + 1) = i + 1 := wrap_i64 (by omega) (by omega)
  obtain ⟨jF, cF, hjF, b1, b2, b3, b4⟩ := hw.hp.get hf1 i (x := x.1) (by simp [hx]) (k := .i64)
  obtain ⟨jM, cM, hjM, m1, m2, m3, m4⟩ := hw.hp.get hf3 i (x := .d (.i .i64 m)) (by simp [hm]) (k := .i64)
  have hlx := hw.hp.len hfi
  have hmk := fun s => den_markedN hp (st := s) n m hn
  obtain ⟨A, hA⟩ : ∃ A, A = markN m n := ⟨_, rfl⟩
  rw [← hA] at hmk
  have hAl : A.length = n := by rw [hA, markN_len]
  obtain ⟨u, hu⟩ : ∃ u, u = V.d (.sl n true A) := ⟨_, rfl⟩
  rw [← hu] at hmk
  have hul : lenV u = some n := by rw [hu]; rfl
  simp [F230_spindlelaw0_Nums_write_b0, wNu, hrow, hlF, hlt, b1, b2, b3, b4, m1, m2, m3, m4, hlx, hmk]
  refine loopW_j wNu (fun n' e s' => ∃ k fs2, k ≤ n ∧ n' = n - k ∧ e = [(0, .ptr p 0), (2, .d (.i .i64 i)), (3, u), (4, .d (.i .i64 k))] ∧ Hp 1 s' p b.R lab fs2 pv al ∧ (∀ a, a ≠ i + 6 → fs2 a = fs' a) ∧ fs2 (i + 6) = some (1, n, x.1, ofDs (mixN A x.2 k))) ?_ (n := n)
    ⟨0, fs', Nat.zero_le _, rfl, by simp, hw.hp, fun _ _ => rfl, by simpa [mixN] using hfi⟩
  rintro n' e s' ⟨k, fs2, hk, rfl, rfl, h2, hs2, hf2⟩
  have hrow2 := h2.row
  simp only [Nub.R] at hrow2
  have hf21 : fs2 1 = some (1, b.fr.length, b.F, b.fr.map (·.1)) := (hs2 1 (by omega)).trans hf1
  obtain ⟨jF, cF, hjF, b1, b2, b3, b4⟩ := h2.get hf21 i (x := x.1) (by simp [hx]) (k := .i64)
  rcases Nat.lt_or_ge k n with hkl | hkg
  · have w3 : IntKind.wrap .i64 ((k : Int) + 1) = k + 1 := wrap_i64 (by omega) (by omega)
    obtain ⟨y, hy⟩ : ∃ y, A[k]? = some y := ⟨_, List.getElem?_eq_getElem (by omega)⟩
    have hia : iaddrV 1 u (.d (.i .i64 (k : Int))) = some (.ep (A.drop k)) := by
      rw [hu]
      simp [iaddrV, hkl]
    have hld : ∀ s, loadV 1 false s (.ep (A.drop k)) = some (.d y) := fun s => by
      rw [List.drop_eq_getElem_cons (by omega), (List.getElem?_eq_some_iff.1 hy).2]
      simp [loadV, mkV, ofDs]
    obtain ⟨P, hP⟩ : ∃ P, P = V.ep (A.drop k) := ⟨_, rfl⟩
    rw [← hP] at hia hld
    obtain ⟨j0, c', e1, e2, e3, e4, e5, h3, g3⟩ := h2.write (a := i + 6) (by omega) hf2 hkl (ys := ofDs [y]) rfl
    rw [Nat.mul_one] at e2 h3
    rw [mixN_lay (by omega) hy] at h3
    simp only [Nat.mul_one] at e4
    have hset : ∀ cs, s'.setBlk j0 (.row cs) = some (s'.put j0 cs) := fun cs => setBlk_put h2.fl
    obtain ⟨s3, hs3⟩ : ∃ s3, s3 = s'.put j0 (lay c' k (ofDs [y])) := ⟨_, rfl⟩
    rw [← hs3] at h3
    simp only [ofDs, List.map_cons, List.map_nil] at hs3
    simp [F230_spindlelaw0_Nums_write_b1, wNu, hul, hkl, hrow2, b1, b2, b3, b4, hia, hld, e2, e3, e4, hset, ← hs3, w3]
    refine ⟨n - (k + 1), by omega, k + 1, by omega, rfl, rfl, _, h3, fun a ha => ?_, by rw [updF_eq]⟩
    rw [updF_ne ha]
    exact hs2 a ha
  · have : k = n := by omega
    subst this
    have hmx : mixN A x.2 k = A := by
      unfold mixN
      rw [List.drop_of_length_le (by omega), List.append_nil, List.take_of_length_le (by omega)]
    rw [hmx] at hf2
    simp [F230_spindlelaw0_Nums_write_b1, wNu, hul, w1]
    refine ⟨b.fr.length - (i + 1), by omega, i + 1, by omega, rfl, rfl, fs2, h2, fun a ha => ?_, fun t y hy => ?_⟩
    · rw [hs2 a (by omega)]; exact hw.same a ha
    · have htl := (List.getElem?_eq_some_iff.1 hy).1
      by_cases hti : t = i
      · subst hti
        rw [hx] at hy
        obtain rfl := Option.some.inj hy
        exact ⟨k, by rw [if_pos (by omega), hmi, hf2, hA], hn, hxl⟩
      · obtain ⟨m', f1, f2, f3⟩ := hw.fr t y hy
        refine ⟨m', ?_, f2, f3⟩
        rw [hs2 (t + 6) (by omega), f1]
        by_cases h5 : t < i
        · rw [if_pos h5, if_pos (by omega)]
        · rw [if_neg h5, if_neg (by omega)]
end
end Go.Sh

/- Lists of numbers: what is grown. -/
set_option linter.unusedVariables false
set_option linter.unusedSimpArgs false
namespace Go.Sh
/-- A list that grew out of a label's: in the label's row still, or in one of its own (label 51). -/
def GrwN (N : Nat) (s : St) (p : Nat) (R : List V) (lab : Nat → Option Nat) (fs : Fs) (pv : List (V × List D)) (al : List (Nat × List V)) (a n : Nat) (g : V) (L : List D) : Prop :=
  (Hp 1 s p R lab fs pv al ∧ LR s 1 g n (ofDs L) (lab a)) ∨ ∃ j, (∀ r, j = some r → N ≤ r) ∧ Hp 1 s p R (upd lab 51 j) (updF fs 51 (some (1, n, g, ofDs L))) pv al
theorem GrwN.out {N : Nat} {s : St} {p : Nat} {R : List V} {lab : Nat → Option Nat} {fs : Fs} {pv : List (V × List D)} {al : List (Nat × List V)} {a n : Nat} {g : V} {L : List D} (h : GrwN N s p R lab fs pv al a n g L) (hl : lab 51 = none) (hf : fs 51 = none) :
    ∃ pv', Hp 1 s p R lab fs pv' al ∧ (∀ x ∈ pv, x ∈ pv') ∧ ((g, L) ∈ pv' ∨ LR s 1 g n (ofDs L) (lab a)) ∧ (g.ok1 = true ∧ g.cs = [g]) := by
  rcases h with ⟨h, hg⟩ | ⟨j, _, h⟩
  · exact ⟨pv, h, fun _ h => h, .inr hg, (hg.lst).1.one⟩
  · have h1 := h.done (a := 51) (by omega) updF_eq
    rw [upd_upd, upd_off hl, updF_updF, updF_off hf] at h1
    exact ⟨_, h1, fun x hx => List.mem_cons_of_mem _ hx, .inl List.mem_cons_self, h.one updF_eq⟩
section
variable {p : Nat} {lab : Nat → Option Nat} {fs : Fs} {pv : List (V × List D)} {al : List (Nat × List V)}
/-- The same, where nothing new was laid ahead. -/
theorem GrwN.app0 {N : Nat} {s : St} {R : List V} {a n n0 m : Nat} {g f x : V} {M E ys : List D} (h : GrwN N s p R lab fs pv al a n g (M ++ E)) (ha : a ≠ 0) (ha1 : a ≠ 51) (hf : fs a = some (1, n0, f, ofDs M)) (hl : lab 51 = none) (hx : vwV 1 s x = some (m, ofDs ys)) (hy : ys.length = m * 1) (hn : n + m ≤ 17592186044416) (hyk : ∀ d ∈ ys, KI d) (hN : N ≤ s.heap.length) {Q : V → St → Prop}
    (hQ : ∀ s' g', GrwN N s' p R lab fs pv al a (n + m) g' (M ++ E ++ ys) → Gr s s' (fun r => lab a = some r ∨ N ≤ r) (fun x => ∃ d, x = .d d ∧ KI d) → Q g' s') : appW 1 8 [D.i .i64 0] s g x Q := by
  have hkk : ∀ x, x ∈ ofDs ys → ∃ d, x = V.d d ∧ KI d := fun x hx => by
    simp only [ofDs, List.mem_map] at hx
    obtain ⟨d, hd, rfl⟩ := hx
    exact ⟨d, rfl, hyk d hd⟩
  rcases h with ⟨h, hg⟩ | ⟨j, hj, h⟩
  · have hg' : LR s 1 g n (ofDs M ++ ofDs E) (lab a) := by simpa [ofDs] using hg
    refine h.fork ha (b := 51) (by omega) hf hg' hx (by rw [ofDs_len]; exact hy) rfl (by omega) (by omega) hl ?_ ?_
    · intro s' g' h' hg'' gr
      exact hQ s' g' (.inl ⟨h', by simpa [ofDs] using hg''⟩) (gr.mono (fun r hr e => .inl e) fun x hx => hkk x hx)
    · intro s' g' j' h' gr nw
      refine hQ s' g' (.inr ⟨j', fun r hr => ?_, by simpa [ofDs] using h'⟩) (gr.mono (fun r hr e => .inl e) fun x hx => hkk x hx)
      rcases nw with e | ⟨i, e, hi, _⟩
      · rw [e] at hr; cases hr
      · rw [e] at hr
        obtain rfl := Option.some.inj hr
        omega
  · refine h.app (a := 51) (by omega) updF_eq hx (by rw [ofDs_len]; exact hy) rfl (by omega) (by omega) ?_
    intro s' g' j' h' gr nw
    rw [updF_updF, upd_upd] at h'
    refine hQ s' g' (.inr ⟨j', fun r hr => ?_, by simpa [ofDs] using h'⟩) (gr.mono (fun r hr e => ?_) fun x hx => hkk x hx)
    · rcases nw with e | ⟨i, e, hi, _⟩
      · rw [upd_eq] at e
        exact hj r (by rw [← e]; exact hr)
      · rw [e] at hr
        obtain rfl := Option.some.inj hr
        omega
    · rw [upd_eq] at e
      exact .inr (hj r e)
end
/-- What has grown: it stays as it is, or it lies in its label's row still. -/
def SmN (s : St) (pv : List (V × List D)) (l : Option Nat) (g : V) (m : Nat) : Prop := (∃ L, (g, L) ∈ pv ∧ L.length = m * 1 ∧ ∀ d ∈ L, KI d) ∨ (foot g = l ∧ ∃ L, Lst s 1 g L ∧ L.length = m * 1 ∧ ∀ d ∈ L, KI d)
section
variable {s s' : St} {pv pv' : List (V × List D)} {l : Option Nat} {g : V} {m : Nat} {A : Nat → Prop} {P : V → Prop}
theorem SmN.mono (h : SmN s pv l g m) (hs : ∀ x ∈ pv, x ∈ pv') : SmN s pv' l g m := h.imp (fun ⟨L, h1, h2⟩ => ⟨L, hs _ h1, h2⟩) id
theorem SmN.kind (h : SmN s pv l g m) (gr : Gr s s' A P) (hP : ∀ x, P x → ∃ d, x = .d d ∧ KI d) : SmN s' pv l g m := by
  rcases h with h | ⟨h1, L, h2, h3, h4⟩
  · exact .inl h
  · obtain ⟨L', k1, k2, k3⟩ := h2.known h4 gr hP
    exact .inr ⟨h1, L', k1, by omega, k3⟩
theorem SmN.keep (h : SmN s pv l g m) (gr : Gr s s' A P) (hA : ∀ r, r < s.heap.length → l = some r → ¬ A r) : SmN s' pv l g m := by
  rcases h with h | ⟨h1, L, h2, h3, h4⟩
  · exact .inl h
  · exact .inr ⟨h1, L, h2.gr gr fun r hr => hA r (h2.lt hr) (h1 ▸ hr), h3, h4⟩
theorem SmN.of {p : Nat} {lab : Nat → Option Nat} {a n : Nat} {L : List D} (hg : (g, L) ∈ pv ∨ LR s 1 g n (ofDs L) (lab a)) (hl : L.length = n * 1) (hk : ∀ d ∈ L, KI d) : SmN s pv (lab a) g n := by
  rcases hg with e | e
  · exact .inl ⟨L, e, hl, hk⟩
  · exact .inr ⟨(e.lst).2.1, L, (e.lst).1, hl, hk⟩
end
/-- The label is given up: all that has grown in its row stays as it is. -/
theorem protsN {s : St} {p : Nat} {R : List V} {lab : Nat → Option Nat} {fs : Fs} {pv : List (V × List D)} {al : List (Nat × List V)} (h : Hp 1 s p R lab fs pv al) {a n : Nat} (ha : a ≠ 0) {f : V} {M : List D} (hf : fs a = some (1, n, f, ofDs M)) :
    ∀ gs : List (V × Nat), (∀ x ∈ gs, SmN s pv (lab a) x.1 x.2) → ∃ pv', Hp 1 s p R (upd lab a none) (updF fs a none) pv' al ∧ (∀ x ∈ pv, x ∈ pv') ∧ (f, M) ∈ pv' ∧ ∀ x ∈ gs, ∃ L, (x.1, L) ∈ pv' ∧ L.length = x.2 * 1 ∧ ∀ d ∈ L, KI d
  | [], _ => ⟨_, h.done ha hf, fun x hx => List.mem_cons_of_mem _ hx, List.mem_cons_self, fun x hx => by cases hx⟩
  | y :: gs, hg => by
    obtain ⟨pv1, h1, h2, h3, h4⟩ := protsN h ha hf gs fun x hx => hg x (List.mem_cons_of_mem _ hx)
    rcases hg y List.mem_cons_self with ⟨L, k1, k2, k3⟩ | ⟨k0, L, k1, k2, k3⟩
    · refine ⟨pv1, h1, h2, h3, fun x hx => ?_⟩
      cases hx with
      | head => exact ⟨L, h2 _ k1, k2, k3⟩
      | tail _ hx => exact h4 x hx
    · refine ⟨(y.1, L) :: pv1, h1.prot k1 (h.free k0) fun x hx e => (h.al x hx).2.1 a (by rw [← k0]; exact e), fun x hx => List.mem_cons_of_mem _ (h2 x hx), List.mem_cons_of_mem _ h3, fun x hx => ?_⟩
      cases hx with
      | head => exact ⟨L, List.mem_cons_self, k2, k3⟩
      | tail _ hx =>
        obtain ⟨L', e1, e2⟩ := h4 x hx
        exact ⟨L', List.mem_cons_of_mem _ e1, e2⟩
end Go.Sh

/- Lists of numbers: a list is grown at once, behind one that grew place by place. -/
set_option linter.unusedVariables false
set_option linter.unusedSimpArgs false
namespace Go.Sh
theorem lay_sameN {α : Type} (a r t : List α) : lay (a ++ r ++ t) a.length r = a ++ r ++ t := by
  unfold lay
  have h1 : (a ++ r ++ t).take a.length = a := by rw [List.append_assoc, List.take_left' rfl]
  have h2 : (a ++ r ++ t).drop (a.length + r.length) = t := List.drop_left' (by simp)
  rw [h1, h2]
/-- append, to a label's list: what has grown by the same already still holds it. -/
theorem Hp.fork2 {SZ : Nat} {s : St} {p : Nat} {R : List V} {lab : Nat → Option Nat} {fs : Fs} {pv : List (V × List D)} {al : List (Nat × List V)} (h : Hp SZ s p R lab fs pv al) {a b : Nat} (ha : a ≠ 0) (hb0 : b ≠ 0) {sz n k : Nat} {v x : V} {c ys : List V} (hf : fs a = some (sz, n, v, c)) (hx : vwV sz s x = some (k, ys)) (hy : ys.length = k * sz) {zero : List D} {bytes : Nat} (hz : zero.length = sz) (hb : (n + k) * bytes ≤ 140737488355328) (hn : n + k ≤ 140737488355328)
    (hlb : lab b = none) {Q : V → St → Prop}
    (hQ : ∀ s' g', Hp SZ s' p R lab fs pv al → LR s' sz g' (n + k) (c ++ ys) (lab a) → Gr s s' (fun r => lab a = some r) (· ∈ ys) → (∀ g4, LR s sz g4 (n + k) (c ++ ys) (lab a) → LR s' sz g4 (n + k) (c ++ ys) (lab a)) → Q g' s')
    (hQ' : ∀ s' g' j', Hp SZ s' p R (upd lab b j') (updF fs b (some (sz, n + k, g', c ++ ys))) pv al → Gr s s' (fun r => lab a = some r) (· ∈ ys) → NewOr s s' none j' → (∀ g4, LR s sz g4 (n + k) (c ++ ys) (lab a) → LR s' sz g4 (n + k) (c ++ ys) (lab a)) → Q g' s') : appW sz bytes zero s v x Q := by
  have hlf := h.lr a _ hf
  refine appW_LR2 h.fl hlf hx hy hz hb hn ?_
  intro s1 g1 j1 hl gr hn1 hold hlay
  have hh : Hp SZ s1 p R lab fs pv al := h.grS gr (fun b => b = a) (fun e => ha e.symm) (fun r _ hr => ⟨a, rfl, hr⟩) fun e x hx => by
    by_cases he : e = a
    · subst he
      rw [hf] at hx
      obtain rfl := Option.some.inj hx
      exact .inr ⟨ha, hold⟩
    · exact .inl ⟨hx, he⟩
  have same : ∀ g4, LR s sz g4 (n + k) (c ++ ys) (lab a) → LR s1 sz g4 (n + k) (c ++ ys) (lab a) := fun g4 h4 => h4.row fun r hr => by
    obtain ⟨c0, e1, e2⟩ := hlay r hr
    obtain ⟨tail, e3⟩ := h4.inRow hr
    rw [e3] at e1
    obtain rfl := Option.some.inj e1
    rcases e2 with e2 | e2
    · rw [e2, e3]
    · have hc : c.length = n * sz := hlf.1
      rw [e2, e3, ← hc, lay_sameN]
  rcases hn1 with rfl | ⟨r, rfl, h1, h2⟩
  · exact hQ s1 g1 hh hl gr same
  · have hno : NewOr s s1 (lab b) (some r) := .inr ⟨r, rfl, h1, h2⟩
    exact hQ' s1 g1 (some r) (hh.set hb0 (h.lone gr.len hno) hl (h.sepNew hno)) gr (.inr ⟨r, rfl, h1, h2⟩) same
end Go.Sh
