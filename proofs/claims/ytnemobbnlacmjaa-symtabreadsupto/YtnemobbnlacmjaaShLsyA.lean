/- Lists of symbols that were handed out (spindlelaw10.Symbols): what looks at them, what is kept. -/
import Derived.Test.YtnemobbnlacmjaaShShelfB
import Derived.Test.YtnemobbnlacmjaaShLsymtabB
import Derived.Test.YtnemobbnlacmjaaShFlaw10
set_option linter.unusedVariables false
set_option linter.unusedSimpArgs false
namespace Go.Sh
def syFns : List (Nat × SFn) := [(33, F33_spindlelaw10_sameSymbols), (207, F207_spindlelaw10_Symbols_untouched), (208, F208_spindlelaw10_Symbols_same), (205, F205_spindlelaw10_Symbols_Holds), (211, F211_spindlelaw10_Symbols_keep), (210, F210_spindlelaw10_markSymbols), (209, F209_spindlelaw10_Symbols_write), (206, F206_spindlelaw10_Symbols_Own)]
def wSy : Nat → Bool := fun f => f == 33 || f == 205 || f == 206 || f == 207 || f == 208 || f == 209 || f == 211
theorem symL_of : ∀ (n : Nat) (L : List D), (∀ d ∈ L, KI d) → L.length = n * 6 → ∃ ss : List Sym, L = (ss.map Sym.cells).flatten ∧ ss.length = n
  | 0, L, _, hl => ⟨[], List.eq_nil_of_length_eq_zero (by omega), rfl⟩
  | n + 1, L, hk, hl => by
    match L, hk, hl with
    | a :: b :: c :: d :: e :: f :: r, hk, hl =>
      obtain ⟨a, rfl⟩ := hk a (by simp)
      obtain ⟨b, rfl⟩ := hk b (by simp)
      obtain ⟨c, rfl⟩ := hk c (by simp)
      obtain ⟨d, rfl⟩ := hk d (by simp)
      obtain ⟨e, rfl⟩ := hk e (by simp)
      obtain ⟨f, rfl⟩ := hk f (by simp)
      obtain ⟨is, h1, h2⟩ := symL_of n r (fun x hx => hk x (by simp [hx])) (by simp at hl; omega)
      refine ⟨⟨a, b, c, d, e, f⟩ :: is, ?_, by simp [h2]⟩
      rw [h1]
      rfl
    | [], _, hl => simp at hl
    | [_], _, hl => simp only [List.length_cons, List.length_nil] at hl; omega
    | [_, _], _, hl => simp only [List.length_cons, List.length_nil] at hl; omega
    | [_, _, _], _, hl => simp only [List.length_cons, List.length_nil] at hl; omega
    | [_, _, _, _], _, hl => simp only [List.length_cons, List.length_nil] at hl; omega
    | [_, _, _, _, _], _, hl => simp only [List.length_cons, List.length_nil] at hl; omega
theorem sym_eqS (x : Sym) : eqV [9, 0, 0, 0, 0, 0, 0] (.agg (ofDs x.cells)) (.agg (ofDs x.cells)) = some true := by
  simp [eqV, toDs_ofDs', Sym.cells, eqDs, eqK]
section
variable {pr : Prog} (hp : Sub syFns pr) {st : St} {p : Nat}
include hp
theorem den_sameS {v w : V} {as : List Sym} (hv : SlC 6 v (as.map Sym.cells)) (hw : SlC 6 w (as.map Sym.cells)) (ha : as.length ≤ 9223372036854775806) : den pr 33 [v, w] st = some (.d (.b true), st) := by
  obtain ⟨u, hc, hu⟩ := hv.close
  obtain ⟨u', hc', hu'⟩ := hw.close
  refine den_shut (hp.at 0 rfl) rfl rfl (by simp [hc, hc']; rfl) ?_
  have hl := hu.len
  have hl' := hu'.len
  rw [List.length_map] at hl hl'
  simp [F33_spindlelaw10_sameSymbols, hl, hl']
  generalize hL : cden pr (.loop _ _ _) _ _ = o
  obtain ⟨r, rfl, hQ⟩ : ∃ r, o = some r ∧ ∃ e, r = (.exit 0, e, s0 [] [] 0 0) := by
    rw [← hL]
    refine loop_n as.length (fun i => [(0, u), (1, u'), (5, .d (.i .i64 i))]) (fun _ => s0 [] [] 0 0) ?_ (by simp) rfl
    intro i hi
    rcases Nat.lt_or_ge i as.length with hlt | hge
    · obtain ⟨x, hx⟩ : ∃ x, as[i]? = some x := ⟨_, List.getElem?_eq_getElem hlt⟩
      have h1 : IntKind.wrap .i64 ((i : Int) + 1) = i + 1 := wrap_i64 (by omega) (by omega)
      have hia := hu.iaddr (i := (i : Int)) (k := .i64) (by omega) (by simp; omega)
      have hia' := hu'.iaddr (i := (i : Int)) (k := .i64) (by omega) (by simp; omega)
      have hld := fun st => hu.load (st := st) (i := i) (o := 0) (n := 6) (agg := true) (el := x.cells) (by simp [hx]) (by omega) (by simp [Sym.cells])
      have hld' := fun st => hu'.load (st := st) (i := i) (o := 0) (n := 6) (agg := true) (el := x.cells) (by simp [hx]) (by omega) (by simp [Sym.cells])
      have htk : x.cells.take 6 = x.cells := rfl
      simp [htk] at hld hld' hia hia'
      have heq := sym_eqS x
      simp [F33_spindlelaw10_sameSymbols_b0, hl, hlt, hia, hia', hld, hld', heq, h1]
    · have : i = as.length := by omega
      subst this
      simp [F33_spindlelaw10_sameSymbols_b0, hl]
  obtain ⟨e, rfl⟩ := hQ
  simp
theorem callW_sameS {v w : V} {L : List D} (h : Lst st 6 v L) (h' : Lst st 6 w L) (hk : ∀ d ∈ L, KI d) (hl : L.length ≤ 9223372036854775806) : CallW pr 33 [v, w] st fun r s => s = st ∧ r = .d (.b true) := by
  obtain ⟨n, nz, hs, hn⟩ := h.see 0
  obtain ⟨n', nz', hs', hn'⟩ := h'.see 0
  have hnn : n = n' := by omega
  subst hnn
  obtain ⟨is, rfl, hi⟩ := symL_of n L hk hn
  have e1 : ∀ x ∈ is.map Sym.cells, x.length = 6 := fun x hx => by obtain ⟨y, _, rfl⟩ := List.mem_map.1 hx; rfl
  have hden := den_sameS hp (st := st0) (v := .d (.sl n nz (is.map Sym.cells).flatten)) (w := .d (.sl n nz' (is.map Sym.cells).flatten)) (as := is) (.of_sl e1 (by simp [hi]) rfl) (.of_sl e1 (by simp [hi]) rfl) (by omega)
  refine .seen (k := 1) (seeA_two hs hs') (CallW.of_den hden ?_)
  simp [FreshR, FreshV, D.flat, pushO, V.flat]
theorem callW_untouchedS {R : List V} {lab : Nat → Option Nat} {fs : Fs} {pv : List (V × List D)} {al : List (Nat × List V)} {t F H K W : V} {n : Nat} {fv hv : List V} (h : Hp 6 st p R lab fs pv al) (hR : R = [t, .d (.b false), F, H, K, W]) (f1 : fs 1 = some (1, n, F, fv)) (f2 : fs 2 = some (1, n, H, hv)) (hn : n ≤ 1000000000)
    (hh : ∀ (i : Nat) f g, fv[i]? = some f → hv[i]? = some g → ∃ L, Lst st 6 f L ∧ Lst st 6 g L ∧ (∀ d ∈ L, KI d) ∧ L.length ≤ 9223372036854775806) : CallW pr 207 [.ptr p 0] st fun r s => s = st ∧ r = .tup [] := by
  subst hR
  refine .run wSy (hp.at 1 rfl) rfl ?_
  rw [start_raw _ rfl]
  refine codeC_of ?_
  have hrow := h.row
  have hlF := h.len f1
  have hcF : fv.length = n := by simpa using (h.lr _ _ f1).1
  have hcH : hv.length = n := by simpa using (h.lr _ _ f2).1
  have hset : st.setBlk p (.row [t, .d (.b false), F, H, K, W]) = some st := by rw [setBlk_put h.fl, put_self hrow]
  simp [F207_spindlelaw10_Symbols_untouched]
  refine loopW_j wSy (fun n' e s => ∃ i, i ≤ n ∧ n' = n - i ∧ e = [(0, .ptr p 0), (2, .d (.i .i64 i))] ∧ s = st) ?_ (n := n) ⟨0, Nat.zero_le _, rfl, by simp, rfl⟩
  rintro n' e s ⟨i, hi, rfl, rfl, rfl⟩
  rcases Nat.lt_or_ge i n with hlt | hge
  · obtain ⟨f, hf⟩ : ∃ f, fv[i]? = some f := ⟨_, List.getElem?_eq_getElem (by omega)⟩
    obtain ⟨g, hg⟩ : ∃ g, hv[i]? = some g := ⟨_, List.getElem?_eq_getElem (by omega)⟩
    obtain ⟨L, l1, l2, l3, l4⟩ := hh i f g hf hg
    obtain ⟨jF, cF, _, a1, a2, a3, a4⟩ := h.get f1 i hf (k := .i64)
    obtain ⟨jH, cH, _, b1, b2, b3, b4⟩ := h.get f2 i hg (k := .i64)
    have h1 : IntKind.wrap .i64 ((i : Int) + 1) = i + 1 := wrap_i64 (by omega) (by omega)
    have hq := callW_sameS hp l1 l2 l3 l4
    simp [F207_spindlelaw10_Symbols_untouched_b0, wSy, hrow, hlF, hlt]
    refine drawn2 25 [] (by decide) (by decide) ?_
    simp [hrow, a1, a2, a3, a4, b1, b2, b3, b4]
    refine ⟨_, hq.mono (fun r s hr => ⟨hr.2, hr.1⟩), ?_⟩
    simp [hrow, lay, hset, h1]
    exact ⟨n - (i + 1), by omega, i + 1, by omega, rfl, rfl⟩
  · have : i = n := by omega
    subst this
    simp [F207_spindlelaw10_Symbols_untouched_b0, wSy, hrow, hlF, FinW]
theorem callW_sameAll {R : List V} {lab : Nat → Option Nat} {fs : Fs} {pv : List (V × List D)} {al : List (Nat × List V)} {t F H K W : V} {n : Nat} {fv hv : List V} (h : Hp 6 st p R lab fs pv al) (hR : R = [t, .d (.b false), F, H, K, W]) (f1 : fs 4 = some (1, n, K, fv)) (f2 : fs 5 = some (1, n, W, hv)) (hn : n ≤ 1000000000)
    (hh : ∀ (i : Nat) f g, fv[i]? = some f → hv[i]? = some g → ∃ L, Lst st 6 f L ∧ Lst st 6 g L ∧ (∀ d ∈ L, KI d) ∧ L.length ≤ 9223372036854775806) : CallW pr 208 [.ptr p 0] st fun r s => s = st ∧ r = .d (.b true) := by
  subst hR
  refine .run wSy (hp.at 2 rfl) rfl ?_
  rw [start_raw _ rfl]
  refine codeC_of ?_
  have hrow := h.row
  have hlF := h.len f1
  have hcF : fv.length = n := by simpa using (h.lr _ _ f1).1
  have hcH : hv.length = n := by simpa using (h.lr _ _ f2).1
  have hset : st.setBlk p (.row [t, .d (.b false), F, H, K, W]) = some st := by rw [setBlk_put h.fl, put_self hrow]
  simp [F208_spindlelaw10_Symbols_same]
  refine loopW_j wSy (fun n' e s => ∃ i, i ≤ n ∧ n' = n - i ∧ e = [(0, .ptr p 0), (3, .d (.i .i64 i))] ∧ s = st) ?_ (n := n) ⟨0, Nat.zero_le _, rfl, by simp, rfl⟩
  rintro n' e s ⟨i, hi, rfl, rfl, rfl⟩
  rcases Nat.lt_or_ge i n with hlt | hge
  · obtain ⟨f, hf⟩ : ∃ f, fv[i]? = some f := ⟨_, List.getElem?_eq_getElem (by omega)⟩
    obtain ⟨g, hg⟩ : ∃ g, hv[i]? = some g := ⟨_, List.getElem?_eq_getElem (by omega)⟩
    obtain ⟨L, l1, l2, l3, l4⟩ := hh i f g hf hg
    obtain ⟨jF, cF, _, a1, a2, a3, a4⟩ := h.get f1 i hf (k := .i64)
    obtain ⟨jH, cH, _, b1, b2, b3, b4⟩ := h.get f2 i hg (k := .i64)
    have h1 : IntKind.wrap .i64 ((i : Int) + 1) = i + 1 := wrap_i64 (by omega) (by omega)
    have hq := callW_sameS hp l1 l2 l3 l4
    simp [F208_spindlelaw10_Symbols_same_b0, wSy, hrow, hlF, hlt]
    refine drawn2 16 [] (by decide) (by decide) ?_
    simp [hrow, a1, a2, a3, a4, b1, b2, b3, b4]
    refine ⟨_, hq.mono (fun r s hr => ⟨hr.2, hr.1⟩), ?_⟩
    simp [hrow, lay, hset, h1]
    exact ⟨n - (i + 1), by omega, i + 1, by omega, rfl, rfl⟩
  · have : i = n := by omega
    subst this
    simp [F208_spindlelaw10_Symbols_same_b0, wSy, hrow, hlF, FinW]
end
end Go.Sh
