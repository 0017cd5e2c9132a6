/- Shelves of instructions (spindlelaw3.Shelf): what looks at them. -/
import Derived.Test.YtnemobbnlacmjaaDoorShShelf
import Derived.Test.YtnemobbnlacmjaaDoorShLcodeE
set_option linter.unusedVariables false
set_option linter.unusedSimpArgs false
namespace Go.Sh
def shiFns : List (Nat × SFn) := [(9, F9_spindlelaw0_SameInsns), (7, F7_spindlelaw0_CopyInsns), (217, F217_spindlelaw3_Shelf_untouched), (223, F223_spindlelaw3_Shelf_kept), (219, F219_spindlelaw3_Shelf_Holds), (222, F222_spindlelaw3_Shelf_keep), (221, F221_spindlelaw3_Shelf_some), (224, F224_spindlelaw0_CopyInsns_row), (218, F218_spindlelaw3_Shelf_write), (214, F214_spindlelaw3_Shelf_Own)]
def wSh : Nat → Bool := fun f => f == 9 || f == 7 || f == 214 || f == 217 || f == 218 || f == 219 || f == 221 || f == 222 || f == 223 || f == 224
def KI (d : D) : Prop := ∃ z, d = .i .i64 z
theorem insL_of : ∀ (n : Nat) (L : List D), (∀ d ∈ L, KI d) → L.length = n * 5 → ∃ is : List Ins, L = (is.map Ins.cells).flatten ∧ is.length = n
  | 0, L, _, hl => ⟨[], List.eq_nil_of_length_eq_zero (by omega), rfl⟩
  | n + 1, L, hk, hl => by
    match L, hk, hl with
    | a :: b :: c :: d :: e :: r, hk, hl =>
      obtain ⟨a, rfl⟩ := hk a (by simp)
      obtain ⟨b, rfl⟩ := hk b (by simp)
      obtain ⟨c, rfl⟩ := hk c (by simp)
      obtain ⟨d, rfl⟩ := hk d (by simp)
      obtain ⟨e, rfl⟩ := hk e (by simp)
      obtain ⟨is, h1, h2⟩ := insL_of n r (fun x hx => hk x (by simp [hx])) (by simp at hl; omega)
      refine ⟨⟨a, b, c, d, e⟩ :: is, ?_, by simp [h2]⟩
      rw [h1]
      rfl
    | [], _, hl => simp at hl
    | [_], _, hl => simp only [List.length_cons, List.length_nil] at hl; omega
    | [_, _], _, hl => simp only [List.length_cons, List.length_nil] at hl; omega
    | [_, _, _], _, hl => simp only [List.length_cons, List.length_nil] at hl; omega
    | [_, _, _, _], _, hl => simp only [List.length_cons, List.length_nil] at hl; omega
theorem kindI (is : List Ins) : ∀ d ∈ (is.map Ins.cells).flatten, KI d := by
  intro d hd
  simp only [List.mem_flatten, List.mem_map] at hd
  obtain ⟨l, ⟨x, _, rfl⟩, hd⟩ := hd
  simp only [Ins.cells, List.mem_cons, List.not_mem_nil, or_false] at hd
  rcases hd with rfl | rfl | rfl | rfl | rfl <;> exact ⟨_, rfl⟩
section
variable {pr : Prog} (hp : Sub shiFns pr) {st : St} {p : Nat}
include hp
theorem den_sameI {v w : V} {as : List Ins} (hv : SlC 5 v (as.map Ins.cells)) (hw : SlC 5 w (as.map Ins.cells)) (ha : as.length ≤ 9223372036854775806) : den pr 9 [v, w] st = some (.d (.b true), st) := by
  obtain ⟨u, hc, hu⟩ := hv.close
  obtain ⟨u', hc', hu'⟩ := hw.close
  refine den_shut (hp.at 0 rfl) rfl rfl (by simp [hc, hc']; rfl) ?_
  have hl := hu.len
  have hl' := hu'.len
  rw [List.length_map] at hl hl'
  simp [F9_spindlelaw0_SameInsns, hl, hl']
  generalize hL : cden pr (.loop _ _ _) _ _ = o
  obtain ⟨r, rfl, hQ⟩ : ∃ r, o = some r ∧ ∃ e, r = (.exit 0, e, s0 [] [] 0 0) := by
    rw [← hL]
    refine loop_n as.length (fun i => [(0, u), (1, u'), (5, .d (.i .i64 i))]) (fun _ => s0 [] [] 0 0) ?_ (by simp) rfl
    intro i hi
    rcases Nat.lt_or_ge i as.length with hlt | hge
    · obtain ⟨x, hx⟩ : ∃ x, as[i]? = some x := ⟨_, List.getElem?_eq_getElem hlt⟩
      have h1 : IntKind.wrap .i64 ((i : Int) + 1) = i + 1 := wrap_i64 (by omega) (by omega)
      have hia := hu.iaddr (i := (i : Int)) (k := .i64) (by omega) (by simp; omega)
      have hia' := hu'.iaddr (i := (i : Int)) (k := .i64) (by omega) (by simp; omega)
      have hld := fun st => hu.load (st := st) (i := i) (o := 0) (n := 5) (agg := true) (el := x.cells) (by simp [hx]) (by omega) (by simp [insC])
      have hld' := fun st => hu'.load (st := st) (i := i) (o := 0) (n := 5) (agg := true) (el := x.cells) (by simp [hx]) (by omega) (by simp [insC])
      simp [ins_take] at hld hld' hia hia'
      have heq := ins_eq x x
      simp at heq
      simp [F9_spindlelaw0_SameInsns_b0, hl, hlt, hia, hia', hld, hld', heq, h1]
    · have : i = as.length := by omega
      subst this
      simp [F9_spindlelaw0_SameInsns_b0, hl]
  obtain ⟨e, rfl⟩ := hQ
  simp
theorem callW_sameI {v w : V} {L : List D} (h : Lst st 5 v L) (h' : Lst st 5 w L) (hk : ∀ d ∈ L, KI d) (hl : L.length ≤ 9223372036854775806) : CallW pr 9 [v, w] st fun r s => s = st ∧ r = .d (.b true) := by
  obtain ⟨n, nz, hs, hn⟩ := h.see 0
  obtain ⟨n', nz', hs', hn'⟩ := h'.see 0
  have hnn : n = n' := by omega
  subst hnn
  obtain ⟨is, rfl, hi⟩ := insL_of n L hk hn
  have e1 : ∀ x ∈ is.map Ins.cells, x.length = 5 := fun x hx => by obtain ⟨y, _, rfl⟩ := List.mem_map.1 hx; rfl
  have hden := den_sameI hp (st := st0) (v := .d (.sl n nz (is.map Ins.cells).flatten)) (w := .d (.sl n nz' (is.map Ins.cells).flatten)) (as := is) (.of_sl e1 (by simp [hi]) rfl) (.of_sl e1 (by simp [hi]) rfl) (by omega)
  refine .seen (k := 1) (seeA_two hs hs') (CallW.of_den hden ?_)
  simp [FreshR, FreshV, D.flat, pushO, V.flat]
omit hp in
theorem raw_copyI {n : Nat} {nz : Bool} {L : List D} (hn : L.length = n * 5) (hl : n ≤ 3518437208883) : RawD pr F7_spindlelaw0_CopyInsns [.d (.sl n nz L)] fun v s => v = .own 5 n true L 0 ∧ s.tips[0]? = some n := by
  have h1 : n * 40 ≤ 140737488355328 := by omega
  have h2 : n ≤ 140737488355328 := by omega
  refine .of ?_
  simp [F7_spindlelaw0_CopyInsns, fillV, reps, ofDs, appV, vw, hn, h1, h2]
theorem callW_copyI {v : V} {L : List D} (h : Lst st 5 v L) (hk : ∀ d ∈ L, KI d) (hl : L.length ≤ 10995116277760) : CallW pr 7 [v] st fun r s => s = st ∧ ∃ n, r = .d (.sl n true L) ∧ L.length = n * 5 := by
  obtain ⟨n, nz, hs, hn⟩ := h.see 0
  refine .seen (k := 1) (as := [.d (.sl n nz L)]) (by simp only [seeA, hs]) (((raw_copyI hn (by omega)).callW (hp.at 1 rfl) rfl).mono ?_)
  rintro v s ⟨rfl, ht⟩
  have hfl : L.all D.flat = true := List.all_eq_true.2 fun d hd => by obtain ⟨z, rfl⟩ := hk d hd; rfl
  simp only [FreshR, FreshV, ht, hfl, hn, true_and, Nat.mul_one]
  exact .inl ⟨rfl, n, rfl, rfl⟩
end
end Go.Sh

/- Shelves of instructions: what looks at them, what is added. -/
set_option linter.unusedVariables false
set_option linter.unusedSimpArgs false
namespace Go.Sh
section
variable {pr : Prog} (hp : Sub shiFns pr) {st : St} {p : Nat}
include hp
theorem callW_untouchedI {R : List V} {lab : Nat → Option Nat} {fs : Fs} {pv : List (V × List D)} {al : List (Nat × List V)} {m t F H K W : V} {n : Nat} {fv hv : List V} (h : Hp 5 st p R lab fs pv al) (hR : R = [m, t, .d (.b false), F, H, K, W]) (f1 : fs 1 = some (1, n, F, fv)) (f2 : fs 2 = some (1, n, H, hv)) (hn : n ≤ 1000000000)
    (hh : ∀ (i : Nat) f g, fv[i]? = some f → hv[i]? = some g → ∃ L, Lst st 5 f L ∧ Lst st 5 g L ∧ (∀ d ∈ L, KI d) ∧ L.length ≤ 9223372036854775806) : CallW pr 217 [.ptr p 0] st fun r s => s = st ∧ r = .tup [] := by
  subst hR
  refine .run wSh (hp.at 2 rfl) rfl ?_
  rw [start_raw _ rfl]
  refine codeC_of ?_
  have hrow := h.row
  have hlF := h.len f1
  have hcF : fv.length = n := by simpa using (h.lr _ _ f1).1
  have hcH : hv.length = n := by simpa using (h.lr _ _ f2).1
  have hset : st.setBlk p (.row [m, t, .d (.b false), F, H, K, W]) = some st := by rw [setBlk_put h.fl, put_self hrow]
  simp [F217_spindlelaw3_Shelf_untouched]
  refine loopW_j wSh (fun n' e s => ∃ i, i ≤ n ∧ n' = n - i ∧ e = [(0, .ptr p 0), (2, .d (.i .i64 i))] ∧ s = st) ?_ (n := n) ⟨0, Nat.zero_le _, rfl, by simp, rfl⟩
  rintro n' e s ⟨i, hi, rfl, rfl, rfl⟩
  rcases Nat.lt_or_ge i n with hlt | hge
  · obtain ⟨f, hf⟩ : ∃ f, fv[i]? = some f := ⟨_, List.getElem?_eq_getElem (by omega)⟩
    obtain ⟨g, hg⟩ : ∃ g, hv[i]? = some g := ⟨_, List.getElem?_eq_getElem (by omega)⟩
    obtain ⟨L, l1, l2, l3, l4⟩ := hh i f g hf hg
    obtain ⟨jF, cF, _, a1, a2, a3, a4⟩ := h.get f1 i hf (k := .i64)
    obtain ⟨jH, cH, _, b1, b2, b3, b4⟩ := h.get f2 i hg (k := .i64)
    have h1 : IntKind.wrap .i64 ((i : Int) + 1) = i + 1 := wrap_i64 (by omega) (by omega)
    have hq := callW_sameI hp l1 l2 l3 l4
    simp [F217_spindlelaw3_Shelf_untouched_b0, wSh, hrow, hlF, hlt]
    refine drawn2 25 [] (by decide) (by decide) ?_
    simp [hrow, a1, a2, a3, a4, b1, b2, b3, b4]
    refine ⟨_, hq.mono (fun r s hr => ⟨hr.2, hr.1⟩), ?_⟩
    simp [hrow, lay, hset, h1]
    exact ⟨n - (i + 1), by omega, i + 1, by omega, rfl, rfl⟩
  · have : i = n := by omega
    subst this
    simp [F217_spindlelaw3_Shelf_untouched_b0, wSh, hrow, hlF, FinW]
theorem callW_keptI {R : List V} {lab : Nat → Option Nat} {fs : Fs} {pv : List (V × List D)} {al : List (Nat × List V)} {m t F H K W : V} {n : Nat} {fv hv : List V} (h : Hp 5 st p R lab fs pv al) (hR : R = [m, t, .d (.b false), F, H, K, W]) (f1 : fs 4 = some (1, n, K, fv)) (f2 : fs 5 = some (1, n, W, hv)) (hn : n ≤ 1000000000)
    (hh : ∀ (i : Nat) f g, fv[i]? = some f → hv[i]? = some g → ∃ L, Lst st 5 f L ∧ Lst st 5 g L ∧ (∀ d ∈ L, KI d) ∧ L.length ≤ 9223372036854775806) : CallW pr 223 [.ptr p 0] st fun r s => s = st ∧ r = .tup [] := by
  subst hR
  refine .run wSh (hp.at 3 rfl) rfl ?_
  rw [start_raw _ rfl]
  refine codeC_of ?_
  have hrow := h.row
  have hlF := h.len f1
  have hcF : fv.length = n := by simpa using (h.lr _ _ f1).1
  have hcH : hv.length = n := by simpa using (h.lr _ _ f2).1
  have hset : st.setBlk p (.row [m, t, .d (.b false), F, H, K, W]) = some st := by rw [setBlk_put h.fl, put_self hrow]
  simp [F223_spindlelaw3_Shelf_kept]
  refine loopW_j wSh (fun n' e s => ∃ i, i ≤ n ∧ n' = n - i ∧ e = [(0, .ptr p 0), (2, .d (.i .i64 i))] ∧ s = st) ?_ (n := n) ⟨0, Nat.zero_le _, rfl, by simp, rfl⟩
  rintro n' e s ⟨i, hi, rfl, rfl, rfl⟩
  rcases Nat.lt_or_ge i n with hlt | hge
  · obtain ⟨f, hf⟩ : ∃ f, fv[i]? = some f := ⟨_, List.getElem?_eq_getElem (by omega)⟩
    obtain ⟨g, hg⟩ : ∃ g, hv[i]? = some g := ⟨_, List.getElem?_eq_getElem (by omega)⟩
    obtain ⟨L, l1, l2, l3, l4⟩ := hh i f g hf hg
    obtain ⟨jF, cF, _, a1, a2, a3, a4⟩ := h.get f1 i hf (k := .i64)
    obtain ⟨jH, cH, _, b1, b2, b3, b4⟩ := h.get f2 i hg (k := .i64)
    have h1 : IntKind.wrap .i64 ((i : Int) + 1) = i + 1 := wrap_i64 (by omega) (by omega)
    have hq := callW_sameI hp l1 l2 l3 l4
    simp [F223_spindlelaw3_Shelf_kept_b0, wSh, hrow, hlF, hlt]
    refine drawn2 25 [] (by decide) (by decide) ?_
    simp [hrow, a1, a2, a3, a4, b1, b2, b3, b4]
    refine ⟨_, hq.mono (fun r s hr => ⟨hr.2, hr.1⟩), ?_⟩
    simp [hrow, lay, hset, h1]
    exact ⟨n - (i + 1), by omega, i + 1, by omega, rfl, rfl⟩
  · have : i = n := by omega
    subst this
    simp [F223_spindlelaw3_Shelf_kept_b0, wSh, hrow, hlF, FinW]
end
end Go.Sh

/- Shelves of instructions: what is added to them. -/
set_option linter.unusedVariables false
set_option linter.unusedSimpArgs false
namespace Go.Sh
theorem upd_comm {f : Nat → Option Nat} {a b : Nat} {x y : Option Nat} (h : a ≠ b) : upd (upd f a x) b y = upd (upd f b y) a x := by
  funext c
  by_cases h1 : c = a <;> by_cases h2 : c = b <;> simp [upd, h1, h2, h, Ne.symm h]
theorem updF_comm {α : Type} {f : Nat → α} {a b : Nat} {x y : α} (h : a ≠ b) : updF (updF f a x) b y = updF (updF f b y) a x := by
  funext c
  by_cases h1 : c = a <;> by_cases h2 : c = b <;> simp [updF, h1, h2, h, Ne.symm h]
section
variable {pr : Prog} (hp : Sub shiFns pr) {st : St} {p : Nat} {lab : Nat → Option Nat} {fs : Fs} {pv : List (V × List D)} {al : List (Nat × List V)}
include hp
theorem callW_HoldsI {m t F H K W : V} {n n' : Nat} {fv hv kv wv : List V} (h : Hp 5 st p [m, t, .d (.b false), F, H, K, W] lab fs pv al) (f1 : fs 1 = some (1, n, F, fv)) (f2 : fs 2 = some (1, n, H, hv)) (f4 : fs 4 = some (1, n', K, kv)) (f5 : fs 5 = some (1, n', W, wv)) (hn : n ≤ 1000000000) (hn' : n' ≤ 1000000000)
    (hh : ∀ (i : Nat) f g, fv[i]? = some f → hv[i]? = some g → ∃ L, Lst st 5 f L ∧ Lst st 5 g L ∧ (∀ d ∈ L, KI d) ∧ L.length ≤ 9223372036854775806)
    (hk : ∀ (i : Nat) f g, kv[i]? = some f → wv[i]? = some g → ∃ L, Lst st 5 f L ∧ Lst st 5 g L ∧ (∀ d ∈ L, KI d) ∧ L.length ≤ 9223372036854775806) : CallW pr 219 [.ptr p 0] st fun r s => s = st ∧ r = .d (.b true) := by
  refine .run wSh (hp.at 4 rfl) rfl ?_
  rw [start_raw _ rfl]
  refine codeC_of ?_
  have hrow := h.row
  simp [F219_spindlelaw3_Shelf_Holds, wSh]
  refine (callW_untouchedI hp h rfl f1 f2 hn hh).mono ?_
  rintro r s ⟨rfl, rfl⟩
  simp [wSh]
  refine (callW_keptI hp h rfl f4 f5 hn' hk).mono ?_
  rintro r s ⟨rfl, rfl⟩
  simp [hrow, FinW]
/-- A list more is kept. -/
theorem callW_keepI {m t bad F H K W k w : V} {n : Nat} {kv wv : List V} (h : Hp 5 st p [m, t, bad, F, H, K, W] lab fs pv al) (f4 : fs 4 = some (1, n, K, kv)) (f5 : fs 5 = some (1, n, W, wv)) (hk : k.ok1 = true ∧ k.cs = [k]) (hw : w.ok1 = true ∧ w.cs = [w]) (hn : n ≤ 1000000000) {Q : V → St → Prop}
    (hQ : ∀ s K' W' j4 j5, Hp 5 s p [m, t, bad, F, H, K', W'] (upd (upd lab 4 j4) 5 j5) (updF (updF fs 4 (some (1, n + 1, K', kv ++ [k]))) 5 (some (1, n + 1, W', wv ++ [w]))) pv al → Gr st s (fun r => r = p ∨ lab 4 = some r ∨ lab 5 = some r) (fun _ => True) → Q (.tup []) s) : CallW pr 222 [.ptr p 0, k, w] st Q := by
  refine .run wSh (hp.at 5 rfl) rfl ?_
  rw [start_raw _ rfl]
  refine codeC_of ?_
  have hrow := h.row
  have hpl := row_lt hrow
  have hv := vwV_lit st k
  simp [F222_spindlelaw3_Shelf_keep, hrow, hpl, fillV, reps, ofDs, hk, lay, hv]
  refine (h.push _).app (a := 4) (by omega) f4 hv (by simp) rfl (by omega) (by omega) ?_
  intro s1 K1 j4 h1 g1 n1
  have hfl1 : s1.floor = 0 := h1.fl
  have hrow1 := h1.row
  have hset1 : ∀ cs, s1.setBlk p (.row cs) = some (s1.put p cs) := fun cs => setBlk_put hfl1
  obtain ⟨h2, g2⟩ := h1.put (R' := [m, t, bad, F, H, K1, W]) rfl
  have hk1 := h1.one (a := 4) (updF_eq)
  obtain ⟨s2, hs2⟩ : ∃ s2, s2 = s1.put p [m, t, bad, F, H, K1, W] := ⟨_, rfl⟩
  rw [← hs2] at h2 g2
  have hrow2 := h2.row
  have hpl2 := row_lt hrow2
  have hv2 := vwV_lit s2 w
  simp [hrow1, hset1, lay, hk1, ← hs2, hrow2, hpl2, fillV, reps, ofDs, hw]
  refine (h2.push _).app (a := 5) (by omega) (by rw [updF_ne (by omega)]; exact f5) hv2 (by simp) rfl (by omega) (by omega) ?_
  intro s3 W1 j5 h3 g3 n3
  have hrow3 := h3.row
  have hset3 : ∀ cs, s3.setBlk p (.row cs) = some (s3.put p cs) := fun cs => setBlk_put h3.fl
  obtain ⟨h4, g4⟩ := h3.put (R' := [m, t, bad, F, H, K1, W1]) rfl
  have hw1 := h3.one (a := 5) (updF_eq)
  simp [hrow3, hset3, lay, hw1, FinW]
  have L1 := g1.len
  have L2 := g2.len
  simp only [push_len] at L1
  refine hQ _ K1 W1 j4 j5 h4 ?_
  refine (Gr.push _).trans ((g1.mono (fun r _ e => .inr (.inl e)) fun _ _ => trivial).trans ((g2.mono (fun r _ e => .inl e) fun _ _ => trivial).trans ((Gr.push _).trans ((g3.mono (fun r hr e => ?_) fun _ _ => trivial).trans (g4.mono (fun r _ e => .inl e) fun _ _ => trivial)))))
  rw [upd_ne (by omega)] at e
  exact .inr (.inr e)
end
end Go.Sh

/- Shelves of instructions: instructions of the caller's own, copies. -/
set_option linter.unusedVariables false
set_option linter.unusedSimpArgs false
namespace Go.Sh
theorem ofDs_lay (a : List D) (o : Nat) (b : List D) : lay (ofDs a) o (ofDs b) = ofDs (lay a o b) := by simp [lay, ofDs, List.map_take, List.map_drop]
theorem kind_lay {a b : List D} {o : Nat} (ha : ∀ d ∈ a, KI d) (hb : ∀ d ∈ b, KI d) : ∀ d ∈ lay a o b, KI d := by
  intro d hd
  unfold lay at hd
  simp only [List.mem_append] at hd
  rcases hd with (hd | hd) | hd
  · exact ha d (List.mem_of_mem_take hd)
  · exact hb d hd
  · exact ha d (List.mem_of_mem_drop hd)
section
variable {pr : Prog} (hp : Sub shiFns pr) {st : St} {p : Nat} {lab : Nat → Option Nat} {fs : Fs} {pv : List (V × List D)} {al : List (Nat × List V)}
include hp
theorem callW_someI {mark : Int} {t bad F H K W : V} (h : Hp 5 st p [.d (.i .i64 mark), t, bad, F, H, K, W] lab fs pv al) (k : Nat) (hk : k ≤ 1099511627776) {a : Nat} (ha : a ≠ 0) (hla : lab a = none) {Q : V → St → Prop}
    (hQ : ∀ s mark' v j M, Hp 5 s p [.d (.i .i64 mark'), t, bad, F, H, K, W] (upd lab a (some j)) (updF fs a (some (5, k, v, ofDs M))) pv al → (∀ d ∈ M, KI d) → M.length = k * 5 → Gr st s (fun r => r = p) (fun _ => True) → st.heap.length ≤ j → Q v s) : CallW pr 221 [.ptr p 0, .d (.i .i64 k)] st Q := by
  refine .run wSh (hp.at 6 rfl) rfl ?_
  rw [start_raw _ rfl]
  refine codeC_of ?_
  have hrow := h.row
  have hr : room 40 (.d (.i .i64 (k : Int))) = some k := by
    simp [room]
    omega
  obtain ⟨Z, hZ⟩ : ∃ Z : List D, Z = reps k [.i .i64 0, .i .i64 0, .i .i64 0, .i .i64 0, .i .i64 0] := ⟨_, rfl⟩
  have hZl : Z.length = k * 5 := by rw [hZ, reps_len]; rfl
  have hZk : ∀ d ∈ Z, KI d := by
    rw [hZ]
    intro d hd
    have hm : ∀ (n : Nat) (l : List D) d, d ∈ reps n l → d ∈ l := by
      intro n
      intro l d h
      simp only [reps, List.mem_flatten] at h
      obtain ⟨x, h1, h2⟩ := h
      rw [(List.mem_replicate.1 h1).2] at h2
      exact h2
    have := hm _ _ _ hd
    simp only [List.mem_cons, List.not_mem_nil, or_false] at this
    rcases this with rfl | rfl | rfl | rfl | rfl <;> exact ⟨0, rfl⟩
  simp [F221_spindlelaw3_Shelf_some, hr, ← hZ]
  have h0 := h.own (a := a) ha hla (sz := 5) (n := k) (m := k) (c := ofDs Z) (t := []) (by rw [ofDs_len, hZl]) (by simp) (Nat.le_refl _)
  rw [List.append_nil] at h0
  obtain ⟨v, hv⟩ : ∃ v, v = V.rsl 5 st.heap.length 0 k k := ⟨_, rfl⟩
  rw [← hv] at h0 ⊢
  refine loopW_j wSh (fun n e s => ∃ i mark' M, i ≤ k ∧ n = k - i ∧ e = [(0, .ptr p 0), (1, .d (.i .i64 k)), (5, v), (6, .d (.i .i64 i))] ∧ Hp 5 s p [.d (.i .i64 mark'), t, bad, F, H, K, W] (upd lab a (some st.heap.length)) (updF fs a (some (5, k, v, ofDs M))) pv al ∧ (∀ d ∈ M, KI d) ∧ M.length = k * 5 ∧ Gr st s (fun r => r = p ∨ st.heap.length ≤ r) (fun _ => True)) ?_ (n := k) ⟨0, mark, Z, Nat.zero_le _, rfl, by simp, h0, hZk, hZl, .push _⟩
  rintro n e s ⟨i, mk, M, hi, rfl, rfl, h1, hMk, hMl, g1⟩
  have hrow1 := h1.row
  rcases Nat.lt_or_ge i k with hlt | hge
  · have hltI : (i : Int) < k := by omega
    have w1 : IntKind.wrap .i64 ((i : Int) + 1) = i + 1 := wrap_i64 (by omega) (by omega)
    obtain ⟨m2, hm2⟩ : ∃ m2, m2 = IntKind.wrap .i64 (mk + 1) := ⟨_, rfl⟩
    obtain ⟨h2, g2⟩ := h1.put (R' := [.d (.i .i64 m2), t, bad, F, H, K, W]) rfl
    have hset1 : ∀ cs, s.setBlk p (.row cs) = some (s.put p cs) := fun cs => setBlk_put h1.fl
    obtain ⟨s2, hs2⟩ : ∃ s2, s2 = s.put p [.d (.i .i64 m2), t, bad, F, H, K, W] := ⟨_, rfl⟩
    rw [← hs2] at h2 g2
    have hrow2 := h2.row
    obtain ⟨z, hz⟩ : ∃ z : Int, z = IntKind.wrap .i64 (-m2) := ⟨_, rfl⟩
    obtain ⟨j0, c', e1, e2, e3, e4, e5, h3, g3⟩ := h2.write ha updF_eq hlt (ys := ofDs [.i .i64 z, .i .i64 0, .i .i64 0, .i .i64 0, .i .i64 0]) rfl
    rw [ofDs_lay, updF_updF] at h3
    have hset2 : ∀ cs, s2.setBlk j0 (.row cs) = some (s2.put j0 cs) := fun cs => setBlk_put h2.fl
    have hl0 : ∀ x, lay [V.d (.i .i64 mk), t, bad, F, H, K, W] 0 [x] = [x, t, bad, F, H, K, W] := fun _ => rfl
    have hl5 : ∀ x, lay (ofDs [.i .i64 0, .i .i64 0, .i .i64 0, .i .i64 0, .i .i64 0]) 0 [V.d (.i .i64 x)] = ofDs [.i .i64 x, .i .i64 0, .i .i64 0, .i .i64 0, .i .i64 0] := fun _ => rfl
    obtain ⟨s3, hs3⟩ : ∃ s3, s3 = s2.put j0 (lay c' (i * 5) (ofDs [.i .i64 z, .i .i64 0, .i .i64 0, .i .i64 0, .i .i64 0])) := ⟨_, rfl⟩
    rw [← hs3] at h3 g3
    simp [ofDs] at hs3 hl5
    simp [F221_spindlelaw3_Shelf_some_b0, wSh, hlt, hltI, hrow1, hset1, hl0, ← hm2, ← hs2, hrow2, e2, e3, e4, hset2, ← hz, ofDs, w1, fillV, reps, hl5, ← hs3]
    refine ⟨k - (i + 1), by omega, i + 1, by omega, rfl, rfl, m2, _, h3, kind_lay hMk ?_, ?_, g1.trans ((g2.mono (fun _ _ e => .inl e) fun _ _ => trivial).trans (g3.mono (fun r hr e => ?_) fun _ _ => trivial))⟩
    · intro d hd
      simp only [List.mem_cons, List.not_mem_nil, or_false] at hd
      rcases hd with rfl | rfl | rfl | rfl | rfl <;> exact ⟨_, rfl⟩
    · rw [lay_len' (by simp; omega)]; exact hMl
    · rw [upd_eq] at e
      obtain rfl := Option.some.inj e
      exact .inr (Nat.le_refl _)
  · have : i = k := by omega
    subst this
    simp [F221_spindlelaw3_Shelf_some_b0, wSh, FinW]
    exact hQ s mk v st.heap.length M h1 hMk hMl (g1.mono (fun r hr e => e.resolve_right (by omega)) fun _ h => h) (Nat.le_refl _)
/-- A copy, in a row of its own. -/
theorem callW_copyRowI {R : List V} (h : Hp 5 st p R lab fs pv al) {x : V} {L : List D} (hx : Lst st 5 x L) (hl : L.length ≤ 10995116277760) {a : Nat} (ha : a ≠ 0) (hla : lab a = none) {Q : V → St → Prop}
    (hQ : ∀ s v j n, Hp 5 s p R (upd lab a j) (updF fs a (some (5, n, v, ofDs L))) pv al → Gr st s (fun _ => False) (fun _ => True) → L.length = n * 5 → (∀ r, j = some r → st.heap.length ≤ r) → Q v s) : CallW pr 224 [x] st Q := by
  refine .run wSh (hp.at 7 rfl) rfl ?_
  rw [start_raw _ rfl]
  refine codeC_of ?_
  have h0 := h.own (a := a) ha hla (sz := 5) (n := 0) (m := 0) (c := []) (t := []) (by simp) (by simp) (Nat.le_refl _)
  rw [List.append_nil] at h0
  obtain ⟨n, hv, hn, _⟩ := (hx.gr (A := fun _ => False) (P := fun _ => True) (.push (.row [])) fun _ _ h => h).vw
  simp [F224_spindlelaw0_CopyInsns_row, wSh, fillV, reps, ofDs]
  refine h0.app ha updF_eq hv (by rw [ofDs_len]; exact hn) rfl (by omega) (by omega) ?_
  intro s1 v1 j1 h1 g1 n1
  rw [updF_updF, upd_upd, Nat.zero_add, List.nil_append] at h1
  simp [FinW]
  refine hQ s1 v1 j1 n h1 ?_ hn ?_
  · have := (Gr.push (A := fun r => st.heap.length ≤ r) (P := fun _ => True) (st := st) (.row [])).trans (g1.mono (A' := fun r => st.heap.length ≤ r) (fun r hr e => by
      rw [upd_eq] at e
      obtain rfl := Option.some.inj e
      exact Nat.le_refl _) fun _ _ => trivial)
    exact this.mono (fun r hr e => by omega) fun _ h => h
  · intro r hr
    rcases n1 with e | ⟨i, e, hi, _⟩
    · rw [upd_eq] at e
      rw [e] at hr
      obtain rfl := Option.some.inj hr
      exact Nat.le_refl _
    · rw [e] at hr
      obtain rfl := Option.some.inj hr
      simp at hi
      omega
end
end Go.Sh

/- Shelves of instructions: a list is grown. -/
set_option linter.unusedVariables false
set_option linter.unusedSimpArgs false
namespace Go.Sh
theorem vwV_lit5 (st : St) (X : List V) (h : X.length = 5) : vwV 5 (st.push (.row X)) (.rsl 5 st.heap.length 0 1 1) = some (1, X) := by
  have : X.take 5 = X := List.take_of_length_le (by omega)
  simp [vwV, h, this]
theorem aggOk (X : List D) : V.ok1 (.agg (ofDs X)) = true := by
  simp [V.ok1, ofDs]
/-- A list that grew out of a label's: in the label's row still, or in one of its own (label 51). -/
def GrwI (N : Nat) (s : St) (p : Nat) (R : List V) (lab : Nat → Option Nat) (fs : Fs) (pv : List (V × List D)) (al : List (Nat × List V)) (a n : Nat) (g : V) (L : List D) : Prop :=
  (Hp 5 s p R lab fs pv al ∧ LR s 5 g n (ofDs L) (lab a)) ∨ ∃ j, (∀ r, j = some r → N ≤ r) ∧ Hp 5 s p R (upd lab 51 j) (updF fs 51 (some (5, n, g, ofDs L))) pv al
section
variable {pr : Prog} (hp : Sub shiFns pr) {st : St} {p : Nat} {lab : Nat → Option Nat} {fs : Fs} {pv : List (V × List D)} {al : List (Nat × List V)}
theorem GrwI.load {N : Nat} {s : St} {R : List V} {a n m k : Nat} {g E0 : V} {L E : List D} (h : GrwI N s p R lab fs pv al a n g L) (hE : fs 50 = some (5, m, E0, ofDs E)) (ha5 : a ≠ 50) (hk : k < m) : ∃ j0 c, lab 50 = some j0 ∧ iaddrV 5 E0 (.d (.i .i64 (k : Int))) = some (.ptr j0 (k * 5)) ∧ s.row j0 = some c ∧ k * 5 + 5 ≤ c.length ∧ (c.drop (k * 5)).take 5 = ofDs ((E.drop (k * 5)).take 5) := by
  have hl : LR s 5 E0 m (ofDs E) (lab 50) := by
    rcases h with ⟨h, _⟩ | ⟨j, _, h⟩
    · exact h.lr 50 _ hE
    · have := h.lr 50 (5, m, E0, ofDs E) (by rw [updF_ne (by omega)]; exact hE)
      rw [upd_ne (by omega)] at this
      exact this
  obtain ⟨j0, h1, h2⟩ := hl.iaddr (k := .i64) hk
  obtain ⟨tail, h3⟩ := hl.inRow h1
  have hlen := hl.1
  rw [ofDs_len] at hlen
  refine ⟨j0, _, h1, h2, h3, by rw [List.length_append, ofDs_len]; omega, ?_⟩
  rw [List.drop_append_of_le_length (by rw [ofDs_len]; omega), List.take_append_of_le_length (by rw [List.length_drop, ofDs_len]; omega)]
  simp [ofDs, List.map_take, List.map_drop]
theorem GrwI.app {N : Nat} {s : St} {R : List V} {a n n0 m : Nat} {g f x : V} {M E ys : List D} (h : GrwI N s p R lab fs pv al a n g (M ++ E)) (ha : a ≠ 0) (ha1 : a ≠ 51) (hf : fs a = some (5, n0, f, ofDs M)) (hl : lab 51 = none) (hx : vwV 5 (s.push (.row (ofDs ys))) x = some (m, ofDs ys)) (hy : ys.length = m * 5) (hn : n + m ≤ 3518437208883) (hn2 : n + m ≤ 140737488355328) (hyk : ∀ d ∈ ys, KI d) (hN : N ≤ s.heap.length) {Q : V → St → Prop}
    (hQ : ∀ s' g', GrwI N s' p R lab fs pv al a (n + m) g' (M ++ E ++ ys) → Gr (s.push (.row (ofDs ys))) s' (fun r => lab a = some r ∨ N ≤ r) (fun x => ∃ d, x = .d d ∧ KI d) → Q g' s') : appW 5 40 [.i .i64 0, .i .i64 0, .i .i64 0, .i .i64 0, .i .i64 0] (s.push (.row (ofDs ys))) g x Q := by
  have hkk : ∀ x, x ∈ ofDs ys → ∃ d, x = V.d d ∧ KI d := fun x hx => by
    simp only [ofDs, List.mem_map] at hx
    obtain ⟨d, hd, rfl⟩ := hx
    exact ⟨d, rfl, hyk d hd⟩
  rcases h with ⟨h, hg⟩ | ⟨j, hj, h⟩
  · have hg' : LR (s.push (.row (ofDs ys))) 5 g n (ofDs M ++ ofDs E) (lab a) := by
      have := hg.gr (A := fun _ => False) (P := fun _ => True) (.push (.row (ofDs ys))) fun _ _ h => h
      simpa [ofDs] using this
    refine (h.push _).fork ha (b := 51) (by omega) hf hg' hx (by rw [ofDs_len]; exact hy) rfl (by omega) hn2 hl ?_ ?_
    · intro s' g' h' hg'' gr
      refine hQ s' g' (.inl ⟨h', by simpa [ofDs] using hg''⟩) (gr.mono (fun r hr e => .inl e) fun x hx => hkk x hx)
    · intro s' g' j' h' gr nw
      refine hQ s' g' (.inr ⟨j', fun r hr => ?_, by simpa [ofDs] using h'⟩) (gr.mono (fun r hr e => .inl e) fun x hx => hkk x hx)
      rcases nw with e | ⟨i, e, hi, _⟩
      · rw [e] at hr; cases hr
      · rw [e] at hr
        obtain rfl := Option.some.inj hr
        simp at hi
        omega
  · refine (h.push _).app (a := 51) (by omega) updF_eq hx (by rw [ofDs_len]; exact hy) rfl (by omega) hn2 ?_
    intro s' g' j' h' gr nw
    rw [updF_updF, upd_upd] at h'
    refine hQ s' g' (.inr ⟨j', fun r hr => ?_, by simpa [ofDs] using h'⟩) (gr.mono (fun r hr e => ?_) fun x hx => hkk x hx)
    · rcases nw with e | ⟨i, e, hi, _⟩
      · rw [upd_eq] at e
        exact hj r (by rw [← e]; exact hr)
      · rw [e] at hr
        obtain rfl := Option.some.inj hr
        simp at hi
        omega
    · rw [upd_eq] at e
      exact .inr (hj r e)
theorem growFew {R : List V} (h : Hp 5 st p R lab fs pv al) {Fv ov iV : V} {a n m : Nat} {f E0 : V} {M E : List D} (ha : a ≠ 0) (ha1 : a ≠ 51) (ha5 : a ≠ 50) (hf : fs a = some (5, n, f, ofDs M)) (hE : fs 50 = some (5, m, E0, ofDs E)) (hl : lab 51 = none) (hn : n ≤ 1099511627776) (hm : m ≤ 1099511627776) (hEk : ∀ d ∈ E, KI d) {Q : Out → Prop}
    (hQ : ∀ e s' g', e.get 0 = some (.ptr p 0) → e.get 2 = some Fv → e.get 5 = some ov → e.get 6 = some iV → e.get 7 = some E0 → e.get 8 = some g' → GrwI st.heap.length s' p R lab fs pv al a (n + m) g' (M ++ E) → Gr st s' (fun r => lab a = some r) (fun x => ∃ d, x = .d d ∧ KI d) → Q (.exit 4, e, s')) :
    CodeW pr (.loop [0, 2, 5, 6, 7, 8, 9] false F218_spindlelaw3_Shelf_write_b2) [(0, .ptr p 0), (2, Fv), (5, ov), (6, iV), (7, E0), (8, f), (9, .d (.i .i64 0))] st Q := by
  have hEl : E.length = m * 5 := by have := (h.lr 50 _ hE).1; rw [ofDs_len] at this; exact this
  refine loopW_j wSh (fun n' e s => ∃ k g', k ≤ m ∧ n' = m - k ∧ e = [(0, .ptr p 0), (2, Fv), (5, ov), (6, iV), (7, E0), (8, g'), (9, .d (.i .i64 k))] ∧ GrwI st.heap.length s p R lab fs pv al a (n + k) g' (M ++ E.take (k * 5)) ∧ Gr st s (fun r => lab a = some r ∨ st.heap.length ≤ r) (fun x => ∃ d, x = .d d ∧ KI d)) ?_ (n := m) ⟨0, f, Nat.zero_le _, rfl, by simp, .inl ⟨h, by simpa using h.lr a _ hf⟩, .refl _ _ _⟩
  rintro n' e s ⟨k, g', hk, rfl, rfl, hg, gr⟩
  have hlE : lenV E0 = some m := h.len hE
  rcases Nat.lt_or_ge k m with hlt | hge
  · obtain ⟨X, hX⟩ : ∃ X, X = (E.drop (k * 5)).take 5 := ⟨_, rfl⟩
    have hXl : X.length = 5 := by rw [hX, List.length_take, List.length_drop]; omega
    have hXk : ∀ d ∈ X, KI d := fun d hd => hEk d (by rw [hX] at hd; exact List.mem_of_mem_drop (List.mem_of_mem_take hd))
    have htk : E.take ((k + 1) * 5) = E.take (k * 5) ++ X := by rw [hX, Nat.succ_mul, List.take_add]
    have hXo : (ofDs X).length = 5 := by rw [ofDs_len, hXl]
    have w1 : IntKind.wrap .i64 ((k : Int) + 1) = k + 1 := wrap_i64 (by omega) (by omega)
    obtain ⟨j0, c, e1, e2, e3, e4⟩ : ∃ j0 c, iaddrV 5 E0 (.d (.i .i64 (k : Int))) = some (.ptr j0 (k * 5)) ∧ s.row j0 = some c ∧ k * 5 + 5 ≤ c.length ∧ (c.drop (k * 5)).take 5 = ofDs X := by
      obtain ⟨j0, c, _, q2, q3, q4, q5⟩ := hg.load hE ha5 hlt
      exact ⟨j0, c, q2, q3, q4, by rw [hX]; exact q5⟩
    have hv := vwV_lit5 s (ofDs X) hXo
    have hlay : lay (ofDs [.i .i64 0, .i .i64 0, .i .i64 0, .i .i64 0, .i .i64 0]) 0 (ofDs X) = ofDs X := by simp [lay, ofDs, hXl]
    simp [ofDs] at hlay
    have hok : V.ok1 (.agg (ofDs X)) = true := aggOk X
    have hcs : V.cs (.agg (ofDs X)) = ofDs X := rfl
    simp [F218_spindlelaw3_Shelf_write_b2, wSh, hlE, hlt, e2, e3, e4, e1, fillV, reps]
    simp [ofDs] at hok hcs hXo hv
    simp [ofDs, hok, hcs, hlay, hXl, hXo]
    refine hg.app (x := .rsl 5 s.heap.length 0 1 1) (m := 1) (ys := X) ha ha1 hf hl (by simpa [ofDs] using hv) (by rw [hXl]) (by omega) (by omega) hXk gr.len ?_
    intro s1 g1 hg1 gr1
    simp [F218_spindlelaw3_Shelf_write_b2, wSh, w1]
    refine ⟨m - (k + 1), by omega, k + 1, by omega, rfl, g1, ⟨rfl, rfl⟩, ?_, gr.trans (((Gr.push _).trans (gr1.mono (fun r hr e => e) fun _ h => h)).mono (fun r hr e => ?_) fun _ h => h)⟩
    · rw [htk, ← List.append_assoc]
      exact hg1
    · exact e
  · have : k = m := by omega
    subst this
    simp [F218_spindlelaw3_Shelf_write_b2, wSh, hlE]
    rw [← hEl, List.take_length] at hg
    exact hQ _ _ g' (by simp) (by simp) (by simp) (by simp) (by simp) (by simp) hg (gr.mono (fun r hr e => e.resolve_right (by omega)) fun _ h => h)
theorem growMany {R : List V} (h : Hp 5 st p R lab fs pv al) {Fv ov iV : V} {a n m : Nat} {f E0 : V} {M E : List D} (ha : a ≠ 0) (ha1 : a ≠ 51) (ha5 : a ≠ 50) (hf : fs a = some (5, n, f, ofDs M)) (hE : fs 50 = some (5, m, E0, ofDs E)) (hl : lab 51 = none) (hn : n ≤ 1099511627776) (hm : m ≤ 1099511627776) (hEk : ∀ d ∈ E, KI d) {Q : Out → Prop}
    (hQ : ∀ e s' g', e.get 0 = some (.ptr p 0) → e.get 2 = some Fv → e.get 5 = some ov → e.get 10 = some iV → e.get 11 = some E0 → e.get 12 = some g' → GrwI st.heap.length s' p R lab fs pv al a (n + m) g' (M ++ E) → Gr st s' (fun r => lab a = some r) (fun x => ∃ d, x = .d d ∧ KI d) → Q (.exit 8, e, s')) :
    CodeW pr (.loop [0, 2, 5, 10, 11, 12, 13] false F218_spindlelaw3_Shelf_write_b4) [(0, .ptr p 0), (2, Fv), (5, ov), (10, iV), (11, E0), (12, f), (13, .d (.i .i64 0))] st Q := by
  have hEl : E.length = m * 5 := by have := (h.lr 50 _ hE).1; rw [ofDs_len] at this; exact this
  refine loopW_j wSh (fun n' e s => ∃ k g', k ≤ m ∧ n' = m - k ∧ e = [(0, .ptr p 0), (2, Fv), (5, ov), (10, iV), (11, E0), (12, g'), (13, .d (.i .i64 k))] ∧ GrwI st.heap.length s p R lab fs pv al a (n + k) g' (M ++ E.take (k * 5)) ∧ Gr st s (fun r => lab a = some r ∨ st.heap.length ≤ r) (fun x => ∃ d, x = .d d ∧ KI d)) ?_ (n := m) ⟨0, f, Nat.zero_le _, rfl, by simp, .inl ⟨h, by simpa using h.lr a _ hf⟩, .refl _ _ _⟩
  rintro n' e s ⟨k, g', hk, rfl, rfl, hg, gr⟩
  have hlE : lenV E0 = some m := h.len hE
  rcases Nat.lt_or_ge k m with hlt | hge
  · obtain ⟨X, hX⟩ : ∃ X, X = (E.drop (k * 5)).take 5 := ⟨_, rfl⟩
    have hXl : X.length = 5 := by rw [hX, List.length_take, List.length_drop]; omega
    have hXk : ∀ d ∈ X, KI d := fun d hd => hEk d (by rw [hX] at hd; exact List.mem_of_mem_drop (List.mem_of_mem_take hd))
    have htk : E.take ((k + 1) * 5) = E.take (k * 5) ++ X := by rw [hX, Nat.succ_mul, List.take_add]
    have hXo : (ofDs X).length = 5 := by rw [ofDs_len, hXl]
    have w1 : IntKind.wrap .i64 ((k : Int) + 1) = k + 1 := wrap_i64 (by omega) (by omega)
    obtain ⟨j0, c, e1, e2, e3, e4⟩ : ∃ j0 c, iaddrV 5 E0 (.d (.i .i64 (k : Int))) = some (.ptr j0 (k * 5)) ∧ s.row j0 = some c ∧ k * 5 + 5 ≤ c.length ∧ (c.drop (k * 5)).take 5 = ofDs X := by
      obtain ⟨j0, c, _, q2, q3, q4, q5⟩ := hg.load hE ha5 hlt
      exact ⟨j0, c, q2, q3, q4, by rw [hX]; exact q5⟩
    have hv := vwV_lit5 s (ofDs X) hXo
    have hlay : lay (ofDs [.i .i64 0, .i .i64 0, .i .i64 0, .i .i64 0, .i .i64 0]) 0 (ofDs X) = ofDs X := by simp [lay, ofDs, hXl]
    simp [ofDs] at hlay
    have hok : V.ok1 (.agg (ofDs X)) = true := aggOk X
    have hcs : V.cs (.agg (ofDs X)) = ofDs X := rfl
    simp [F218_spindlelaw3_Shelf_write_b4, wSh, hlE, hlt, e2, e3, e4, e1, fillV, reps]
    simp [ofDs] at hok hcs hXo hv
    simp [ofDs, hok, hcs, hlay, hXl, hXo]
    refine hg.app (x := .rsl 5 s.heap.length 0 1 1) (m := 1) (ys := X) ha ha1 hf hl (by simpa [ofDs] using hv) (by rw [hXl]) (by omega) (by omega) hXk gr.len ?_
    intro s1 g1 hg1 gr1
    simp [F218_spindlelaw3_Shelf_write_b4, wSh, w1]
    refine ⟨m - (k + 1), by omega, k + 1, by omega, rfl, g1, ⟨rfl, rfl⟩, ?_, gr.trans (((Gr.push _).trans (gr1.mono (fun r hr e => e) fun _ h => h)).mono (fun r hr e => ?_) fun _ h => h)⟩
    · rw [htk, ← List.append_assoc]
      exact hg1
    · exact e
  · have : k = m := by omega
    subst this
    simp [F218_spindlelaw3_Shelf_write_b4, wSh, hlE]
    rw [← hEl, List.take_length] at hg
    exact hQ _ _ g' (by simp) (by simp) (by simp) (by simp) (by simp) (by simp) hg (gr.mono (fun r hr e => e.resolve_right (by omega)) fun _ h => h)
end
end Go.Sh
