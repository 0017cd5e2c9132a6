/- Books: lists of bytes that were handed out, written over, grown (spindlelaw0): what looks at them. -/
import Derived.Test.YtpgipjjhapapjabShBe
import Derived.Test.YtpgipjjhapapjabShFlaw0
set_option linter.unusedVariables false
set_option linter.unusedSimpArgs false
namespace Go.Sh
def bookFns : List (Nat × SFn) := [(127, F127_spindlelaw0_Book_untouched), (128, F128_spindlelaw0_Book_same), (123, F123_spindlelaw0_Book_Holds), (132, F132_spindlelaw0_Book_keep), (130, F130_spindlelaw0_Book_write), (126, F126_spindlelaw0_Book_Own), (131, F131_spindlelaw0_marked), (133, F133_spindlelaw0_marked_own), (35, F35_spindlelaw0_CopyBytes)]
/-- What a book holds. -/
structure Bk where
  count : Int
  total : Int
  F : V
  H : V
  M : V
  K : V
  W : V
  jF : Option Nat
  jH : Option Nat
  jM : Option Nat
  jK : Option Nat
  jW : Option Nat
  fr : List (Option Nat × V × List UInt8)
  marks : List Int
  kv : List V
  wv : List V
def Bk.cells (b : Bk) : List V := [.d (.i .i64 b.count), .d (.i .i64 b.total), .d (.b false), b.F, b.H, b.M, b.K, b.W]
/-- The rows that are the book's to write. -/
def Bk.lab (b : Bk) (p : Nat) : Nat → Option Nat
  | 0 => some p
  | 1 => b.jF
  | 2 => b.jH
  | 3 => b.jM
  | 4 => b.jK
  | 5 => b.jW
  | a + 6 => (b.fr[a]?).bind (·.1)
structure BkI (st : St) (p : Nat) (b : Bk) : Prop where
  fl : st.floor = 0
  row : st.row p = some b.cells
  F : LR st 1 b.F b.fr.length (b.fr.map fun x => x.2.1) b.jF
  H : LR st 1 b.H b.fr.length (b.fr.map fun x => bsl true x.2.2) b.jH
  M : LR st 1 b.M b.fr.length (b.marks.map fun m => .d (.i .i64 m)) b.jM
  K : LR st 1 b.K b.kv.length b.kv b.jK
  W : LR st 1 b.W b.kv.length b.wv b.jW
  fr : ∀ x ∈ b.fr, LR st 1 x.2.1 x.2.2.length (ofDs (byteCells x.2.2)) x.1
  kw : ∀ (i : Nat) k w, b.kv[i]? = some k → b.wv[i]? = some w → ∃ L, Byt st k L ∧ Byt st w L
  sep : ∀ a c i, b.lab p a = some i → b.lab p c = some i → a = c
  out : ∀ v, v ∈ b.kv ∨ v ∈ b.wv → ∀ j, foot v = some j → ∀ a, b.lab p a ≠ some j
  small : b.fr.length ≤ 3 ∧ b.kv.length ≤ 900000000
  size : ∀ x ∈ b.fr, x.2.2.length ≤ 1099511627776
  total : 0 ≤ b.total
/-- An element of a list in a row. -/
theorem LR.get {st : St} {v : V} {n : Nat} {cells : List V} {j : Option Nat} (h : LR st 1 v n cells j) (i : Nat) {x : V} (hx : cells[i]? = some x) {k : IntKind} : ∃ j0 c, j = some j0 ∧ iaddrV 1 v (.d (.i k (i : Int))) = some (.ptr j0 i) ∧ st.row j0 = some c ∧ i + 1 ≤ c.length ∧ (c.drop i).take 1 = [x] := by
  have hlt := (List.getElem?_eq_some_iff.1 hx).1
  obtain ⟨j0, h1, h2⟩ := h.iaddr (k := k) (i := i) (by have := h.1; omega)
  obtain ⟨tail, h3⟩ := h.inRow h1
  have hl : i < (cells ++ tail).length := by rw [List.length_append]; omega
  refine ⟨j0, _, h1, by simpa using h2, h3, by omega, ?_⟩
  rw [List.drop_eq_getElem_cons hl, List.take_succ_cons, List.take_zero, List.getElem_append_left hlt]
  rw [(List.getElem?_eq_some_iff.1 hx).2]
section
variable {pr : Prog} (hp : Sub bookFns pr) {st : St} {p : Nat} {b : Bk}
include hp
theorem den_untouched (h : BkI st p b) : den pr 127 [.ptr p 0] st = some (.tup [], st) := by
  rw [den_fn (hp.at 0 rfl) rfl rfl, start_raw _ rfl]
  have hrow := h.row
  simp only [Bk.cells] at hrow
  have hlen := h.F.len
  have hput : st.setBlk p (.row [.d (.i .i64 b.count), .d (.i .i64 b.total), .d (.b false), b.F, b.H, b.M, b.K, b.W]) = some st := by rw [setBlk_put h.fl, put_self hrow]
  simp [F127_spindlelaw0_Book_untouched]
  generalize hL : cden pr (.loop _ _ _) _ _ = o
  obtain ⟨r, rfl, hQ⟩ : ∃ r, o = some r ∧ ∃ e, r = (.exit 0, e, st) := by
    rw [← hL]
    refine loop_n b.fr.length (fun i => [(0, .ptr p 0), (2, .d (.i .i64 i))]) (fun _ => st) ?_ (by simp) rfl
    intro i hi
    have hsm := h.small.1
    rcases Nat.lt_or_ge i b.fr.length with hlt | hge
    · obtain ⟨x, hx⟩ : ∃ x, b.fr[i]? = some x := ⟨_, List.getElem?_eq_getElem hlt⟩
      obtain ⟨jF, cF, _, f1, f2, f5, f6⟩ := h.F.get i (x := x.2.1) (by simp [hx]) (k := .i64)
      obtain ⟨jH, cH, _, f3, f4, f7, f8⟩ := h.H.get i (x := bsl true x.2.2) (by simp [hx]) (k := .i64)
      have hb := ((h.fr x (List.mem_of_getElem? hx)).byt).1.b2s
      have h1 : IntKind.wrap .i64 ((i : Int) + 1) = i + 1 := wrap_i64 (by omega) (by omega)
      simp [F127_spindlelaw0_Book_untouched_b0, hrow, hlen, hlt, f1, f2, f3, f4, f5, f6, f7, f8, hb, lay, hput, h1]
    · have : i = b.fr.length := by omega
      simp [F127_spindlelaw0_Book_untouched_b0, hrow, hlen, this]
  obtain ⟨e, rfl⟩ := hQ
  simp
theorem den_same (h : BkI st p b) : den pr 128 [.ptr p 0] st = some (.d (.b true), st) := by
  rw [den_fn (hp.at 1 rfl) rfl rfl, start_raw _ rfl]
  have hrow := h.row
  simp only [Bk.cells] at hrow
  have hlen := h.K.len
  simp [F128_spindlelaw0_Book_same]
  generalize hL : cden pr (.loop _ _ _) _ _ = o
  obtain ⟨r, rfl, hQ⟩ : ∃ r, o = some r ∧ ∃ e, r = (.exit 0, e, st) := by
    rw [← hL]
    refine loop_n b.kv.length (fun i => [(0, .ptr p 0), (3, .d (.i .i64 i))]) (fun _ => st) ?_ (by simp) rfl
    intro i hi
    have hsm := h.small.2
    rcases Nat.lt_or_ge i b.kv.length with hlt | hge
    · obtain ⟨k, hk⟩ : ∃ k, b.kv[i]? = some k := ⟨_, List.getElem?_eq_getElem hlt⟩
      obtain ⟨w, hw⟩ : ∃ w, b.wv[i]? = some w := ⟨_, List.getElem?_eq_getElem (by have := h.W.1; omega)⟩
      obtain ⟨jF, cF, _, f1, f2, f5, f6⟩ := h.K.get i hk (k := .i64)
      obtain ⟨jH, cH, _, f3, f4, f7, f8⟩ := h.W.get i hw (k := .i64)
      obtain ⟨L, hb1, hb2⟩ := h.kw i k w hk hw
      have hb1 := hb1.b2s
      have hb2 := hb2.b2s
      have h1 : IntKind.wrap .i64 ((i : Int) + 1) = i + 1 := wrap_i64 (by omega) (by omega)
      simp [F128_spindlelaw0_Book_same_b0, hrow, hlen, hlt, f1, f2, f3, f4, f5, f6, f7, f8, hb1, hb2, lay, h1]
    · have : i = b.kv.length := by omega
      simp [F128_spindlelaw0_Book_same_b0, hrow, hlen, this]
  obtain ⟨e, rfl⟩ := hQ
  simp
theorem den_Holds (h : BkI st p b) : den pr 123 [.ptr p 0] st = some (.d (.b true), st) := by
  rw [den_fn (hp.at 2 rfl) rfl rfl, start_raw _ rfl]
  have hrow := h.row
  simp only [Bk.cells] at hrow
  have h1 := den_untouched hp h
  have h2 := den_same hp h
  simp [F123_spindlelaw0_Book_Holds, hrow, h1, h2]
omit hp in
theorem vwV_lit (st : St) (k : V) : vwV 1 (st.push (.row [k])) (.rsl 1 st.heap.length 0 1 1) = some (1, [k]) := by
  simp [vwV]
def wBook : Nat → Bool := fun f => f == 130 || f == 132 || f == 133 || f == 35
omit hp in
theorem LR.one {st : St} {sz n : Nat} {v : V} {cells : List V} {j : Option Nat} (h : LR st sz v n cells j) : v.ok1 = true ∧ v.cs = [v] := by
  obtain ⟨_, ⟨rfl, rfl, rfl⟩ | ⟨j0, cap, tail, rfl, rfl, _⟩⟩ := h <;> exact ⟨rfl, rfl⟩
/-- A row that is there before, or one that is new. -/
def NewOr (st s : St) (j j' : Option Nat) : Prop := j' = j ∨ ∃ i, j' = some i ∧ st.heap.length ≤ i ∧ i < s.heap.length
omit hp in
theorem NewOr.trans {st s1 s2 : St} {a b c : Option Nat} (h : NewOr st s1 a b) (k : NewOr s1 s2 b c) (h1 : st.heap.length ≤ s1.heap.length) (h2 : s1.heap.length ≤ s2.heap.length) : NewOr st s2 a c := by
  rcases k with rfl | ⟨i, rfl, k1, k2⟩
  · rcases h with rfl | ⟨i, rfl, h3, h4⟩
    · exact .inl rfl
    · exact .inr ⟨i, rfl, h3, by omega⟩
  · exact .inr ⟨i, rfl, by omega, k2⟩
/-- A list more that is kept, with what it must hold. -/
theorem callW_keep {c t bad F H M K W k w : V} {n : Nat} {kv wv : List V} {jK jW : Option Nat} {Q : V → St → Prop} (hfl : st.floor = 0) (hrow : st.row p = some [c, t, bad, F, H, M, K, W]) (hK : LR st 1 K n kv jK) (hW : LR st 1 W n wv jW)
    (hpK : jK ≠ some p) (hpW : jW ≠ some p) (hKW : ∀ i, jK = some i → jW ≠ some i) (hn : n ≤ 1000000000) (hk : k.ok1 = true ∧ k.cs = [k]) (hw : w.ok1 = true ∧ w.cs = [w])
    (hQ : ∀ s K' W' jK' jW', s.row p = some [c, t, bad, F, H, M, K', W'] → LR s 1 K' (n + 1) (kv ++ [k]) jK' → LR s 1 W' (n + 1) (wv ++ [w]) jW' →
      Gr st s (fun i => i = p ∨ jK = some i ∨ jW = some i) (fun _ => True) → NewOr st s jK jK' → NewOr st s jW jW' → (∀ i, jK' = some i → jW' ≠ some i) → Q (.tup []) s) : CallW pr 132 [.ptr p 0, k, w] st Q := by
  refine .run wBook (hp.at 3 rfl) rfl ?_
  rw [start_raw _ rfl]
  refine codeC_of ?_
  have hpl := row_lt hrow
  have hv := vwV_lit st k
  simp [F132_spindlelaw0_Book_keep, hrow, hpl, fillV, reps, ofDs, hk, lay, hv]
  have hK0 : LR (st.push (.row [k])) 1 K n kv jK := hK.gr (A := fun _ => False) (P := fun _ => True) (.push _) fun _ _ h => h
  refine appW_LR (by simpa using hfl) hK0 hv (by simp) rfl (by omega) (by omega) ?_
  intro s1 K1 j1 l1 gr1 nw1
  have hrow1 : s1.row p = some [c, t, bad, F, H, M, K, W] := by
    rw [gr1.keep p (by simp; omega) (fun h => hpK h), row_old hpl]
    exact hrow
  have hlen1 : st.heap.length + 1 ≤ s1.heap.length := by simpa using gr1.len
  have hfl1 : s1.floor = 0 := by rw [gr1.floor]; exact hfl
  have hset : ∀ cs, s1.setBlk p (.row cs) = some (s1.put p cs) := fun cs => setBlk_put hfl1
  have hpl1 : p < s1.heap.length := by omega
  -- behind the first list
  have g1 : Gr st (s1.put p [c, t, bad, F, H, M, K1, W]) (fun i => i = p ∨ jK = some i ∨ jW = some i) (fun _ => True) :=
    (Gr.push _).trans ((gr1.mono (fun i _ h => .inr (.inl h)) fun _ _ => trivial).trans (Gr.put hrow1 rfl (.inl rfl) fun _ _ _ => .inr trivial))
  have hj1p : ∀ i, j1 = some i → i ≠ p := by
    rintro i hi rfl
    rcases nw1 with h | ⟨i', h, h2, _⟩
    · exact hpK (h ▸ hi)
    · rw [hi] at h
      obtain rfl := Option.some.inj h
      simp at h2
      omega
  have l2 : LR (s1.put p [c, t, bad, F, H, M, K1, W]) 1 K1 (n + 1) (kv ++ [k]) j1 := l1.row fun i hi => row_put_ne (hj1p i hi)
  have hW2 : LR (s1.put p [c, t, bad, F, H, M, K1, W]) 1 W n wv jW := by
    refine (hW.row (s1 := s1) fun i hi => ?_).row fun i hi => row_put_ne fun e => hpW (by rw [hi, e])
    have hlt := hW.lt hi
    rw [gr1.keep i (by simp; omega) (fun h => hKW i h hi), row_old hlt]
  have hrow2 : (s1.put p [c, t, bad, F, H, M, K1, W]).row p = some [c, t, bad, F, H, M, K1, W] := row_put_eq hpl1
  have hk1 := l1.one
  generalize hs2 : s1.put p [c, t, bad, F, H, M, K1, W] = s2 at *
  have hpl2 : p < s2.heap.length := row_lt hrow2
  have hv2 := vwV_lit s2 w
  simp [hrow1, hset, lay, hk1, hs2, hrow2, hpl2, fillV, reps, ofDs, hw]
  have hfl2 : s2.floor = 0 := by rw [← hs2]; exact hfl1
  have hW3 : LR (s2.push (.row [w])) 1 W n wv jW := hW2.gr (A := fun _ => False) (P := fun _ => True) (.push _) fun _ _ h => h
  refine appW_LR (by simpa using hfl2) hW3 hv2 (by simp) rfl (by omega) (by omega) ?_
  intro s3 W1 j3 l3 gr3 nw3
  have hrow3 : s3.row p = some [c, t, bad, F, H, M, K1, W] := by
    rw [gr3.keep p (by simp; omega) (fun h => hpW h), row_old hpl2]
    exact hrow2
  have hlen3 : s2.heap.length + 1 ≤ s3.heap.length := by simpa using gr3.len
  have hlen2 : s2.heap.length = s1.heap.length := by rw [← hs2]; simp
  have hset3 : ∀ cs, s3.setBlk p (.row cs) = some (s3.put p cs) := fun cs => setBlk_put (by rw [gr3.floor]; exact hfl2)
  have hw1 := l3.one
  simp [hrow3, hset3, lay, hw1, FinW]
  have hj3p : ∀ i, j3 = some i → i ≠ p := by
    rintro i hi rfl
    rcases nw3 with h | ⟨i', h, h2, _⟩
    · exact hpW (h ▸ hi)
    · rw [hi] at h
      obtain rfl := Option.some.inj h
      simp at h2
      omega
  have hj1l : ∀ i, j1 = some i → i < s1.heap.length := fun i hi => l1.lt hi
  have hj13 : ∀ i, j1 = some i → j3 ≠ some i := by
    intro i hi hi3
    have hil := hj1l i hi
    rcases nw3 with h | ⟨i', h, h2, _⟩
    · rw [h] at hi3
      rcases nw1 with h1 | ⟨i1, h1, h4, _⟩
      · exact hKW i (h1 ▸ hi) hi3
      · rw [hi] at h1
        obtain rfl := Option.some.inj h1
        have := hW.lt hi3
        simp at h4
        omega
    · rw [hi3] at h
      obtain rfl := Option.some.inj h
      simp at h2
      omega
  refine hQ (s3.put p [c, t, bad, F, H, M, K1, W1]) K1 W1 j1 j3 (row_put_eq (by omega)) ?_ (l3.row fun i hi => row_put_ne (hj3p i hi)) ?_ ?_ ?_ hj13
  · refine (l2.row (s1 := s3) fun i hi => ?_).row fun i hi => row_put_ne (hj1p i hi)
    have hlt := l2.lt hi
    have hne : jW ≠ some i := by
      intro hjw
      rcases nw1 with h1 | ⟨i1, h1, h4, _⟩
      · exact hKW i (h1 ▸ hi) hjw
      · rw [hi] at h1
        obtain rfl := Option.some.inj h1
        have := hW.lt hjw
        simp at h4
        omega
    rw [gr3.keep i (by simp; omega) hne, row_old hlt]
  · refine g1.trans ((Gr.push _).trans ((gr3.mono (fun i _ h => .inr (.inr h)) fun _ _ => trivial).trans (Gr.put hrow3 rfl (.inl rfl) fun _ _ _ => .inr trivial)))
  · rcases nw1 with h | ⟨i, h, h2, h3⟩
    · exact .inl h
    · simp at h2
      exact .inr ⟨i, h, by omega, by simp; omega⟩
  · rcases nw3 with h | ⟨i, h, h2, h3⟩
    · exact .inl h
    · simp at h2
      exact .inr ⟨i, h, by omega, by simpa using h3⟩
end
end Go.Sh
