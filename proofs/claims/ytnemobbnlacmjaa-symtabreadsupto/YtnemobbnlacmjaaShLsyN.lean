/- Symbols that are read: asked, lent, told, handed in. -/
import Derived.Test.YtnemobbnlacmjaaShLsyJ
import Derived.Test.YtnemobbnlacmjaaShLsyM
import Derived.Test.YtnemobbnlacmjaaShLlenderV
set_option linter.unusedVariables false
set_option linter.unusedSimpArgs false
namespace Go.Sh
theorem kindS (acc : List Sym) : ∀ d ∈ (acc.map Sym.cells).flatten, KI d := by
  intro d hd
  simp only [List.mem_flatten, List.mem_map] at hd
  obtain ⟨_, ⟨x, _, rfl⟩, hd⟩ := hd
  simp only [Sym.cells, List.mem_cons, List.not_mem_nil, or_false] at hd
  rcases hd with rfl | rfl | rfl | rfl | rfl | rfl <;> exact ⟨_, rfl⟩
theorem symC_len (acc : List Sym) : (acc.map Sym.cells).flatten.length = acc.length * 6 := by
  rw [flatten_len (sz := 6) (fun y hy => by simp only [List.mem_map] at hy; obtain ⟨z, _, rfl⟩ := hy; rfl), List.length_map]
/-- What a reader of symbols answers, its list in a row of its caller's. -/
def RdRow (st : St) (acc : List Sym) (q e : Int) (r : V) (s : St) : Prop := ∃ w j c, r = .tup [w, .d (.i .i64 q), .d (.i .i64 e)] ∧ LR s 6 w acc.length (ofDs (acc.map Sym.cells).flatten) j ∧ ((j = none ∧ s = st) ∨ (j = some st.heap.length ∧ s = st.push (.row c)))
theorem callW_rd {pr : Prog} {st : St} {f : Nat} {F : SFn} {v : V} {l : List UInt8} (hf : pr.fn f = some F) (hn : F.nparams = 1) (hraw : ∀ u, SlD 1 u (l.map byC) → RawD pr F [u] fun v s => (∃ acc, readOf l = (acc, 0, 0) ∧ v = .tup [.own 6 acc.length (decide (0 < acc.length)) (acc.map Sym.cells).flatten 0, .d (.i .i64 0), .d (.i .i64 0)] ∧ s.tips[0]? = some acc.length) ∨
    ∃ k p, readOf l = ([], p, k) ∧ v = .tup [.d (.sl 0 false []), .d (.i .i64 p), .d (.i .i64 k)]) (hv : Lst st 1 v (byteCells l)) {acc : List Sym} {q e : Int} (hd : readOf l = (acc, q, e)) : CallW pr f [v] st (RdRow st acc q e) := by
  obtain ⟨n, nz, hs, hn1⟩ := hv.see 0
  have hbl : (byteCells l).length = l.length := by simp [byteCells]
  have hn1 : n = l.length := by omega
  subst hn1
  have hu : SlD 1 (.d (.sl l.length nz (byteCells l))) (l.map byC) := bsl_d nz l
  refine .seen (k := 1) (as := [.d (.sl l.length nz (byteCells l))]) (by simp only [seeA, hs]) (((hraw _ hu).callW hf (by rw [hn]; rfl)).mono ?_)
  rintro r s (⟨acc', h1, rfl, ht⟩ | ⟨k, p, h1, rfl⟩)
  · rw [hd] at h1
    simp only [Prod.mk.injEq] at h1
    obtain ⟨rfl, rfl, rfl⟩ := h1
    have hfl : ((acc.map Sym.cells).flatten).all D.flat = true := List.all_eq_true.2 fun d hd => by obtain ⟨z, rfl⟩ := kindS acc d hd; rfl
    have hlen := symC_len acc
    unfold RdRow
    rcases Nat.eq_zero_or_pos acc.length with h0 | h0
    · have : acc = [] := List.eq_nil_of_length_eq_zero h0
      subst this
      simp [FreshR, FreshL, FreshV, D.flat, pushO, V.flat]
      exact ⟨none, .nil _ _, [], .inl rfl⟩
    · have hdec : decide (0 < acc.length) = true := by simpa using h0
      rw [hdec]
      simp only [FreshR, FreshL, FreshV, ht, hfl, hlen, true_and]
      refine .inr fun k => ⟨rfl, _, some st.heap.length, _, rfl, ?_, .inr ⟨rfl, rfl⟩⟩
      refine ⟨by rw [ofDs_len, hlen], .inr ⟨st.heap.length, acc.length + k, List.replicate (k * 6) (.d .any), rfl, rfl, by omega, row_push_new rfl, by simp [Nat.add_mul]; omega⟩⟩
  · rw [hd] at h1
    simp only [Prod.mk.injEq] at h1
    obtain ⟨rfl, rfl, rfl⟩ := h1
    unfold RdRow
    simp [FreshR, FreshL, FreshV, D.flat, pushO, V.flat]
    exact ⟨none, .nil _ _, [], .inl rfl⟩
theorem RdRow.gr {st s : St} {acc : List Sym} {q e : Int} {r : V} (h : RdRow st acc q e r s) : ∃ w j c, r = .tup [w, .d (.i .i64 q), .d (.i .i64 e)] ∧ LR s 6 w acc.length (ofDs (acc.map Sym.cells).flatten) j ∧ (∀ x, j = some x → x = st.heap.length ∧ s.row x = some c ∧ s.heap.length = x + 1) ∧ Gr st s (fun _ => False) (fun _ => True) ∧ Kp st s (fun _ => False) (fun _ => False) := by
  obtain ⟨w, j, c, rfl, h1, h2⟩ := h
  refine ⟨w, j, c, rfl, h1, ?_, ?_⟩
  · intro x hx
    rcases h2 with ⟨e1, _⟩ | ⟨e1, rfl⟩
    · rw [e1] at hx; cases hx
    · rw [e1] at hx
      obtain rfl := Option.some.inj hx
      exact ⟨rfl, row_push_new rfl, by simp⟩
  · rcases h2 with ⟨_, rfl⟩ | ⟨_, rfl⟩
    · exact ⟨.refl _ _ _, .refl _ _ _⟩
    · exact ⟨.push _, .push _⟩
theorem BV.lst {st : St} {v : V} {L : List UInt8} (h : BV st v L) (h0 : ∀ s id off n cap, v = .rsl s id off n cap → off = 0) : Lst st 1 v (byteCells L) := by
  rcases h with ⟨nz, rfl⟩ | ⟨id, off, cap, c, rfl, h1, h2, h3, h4⟩
  · exact ⟨rfl, by simp [byteCells]⟩
  · obtain rfl := h0 _ _ _ _ _ rfl
    exact ⟨rfl, rfl, by simp [byteCells], c, h2, by omega, by simpa using h4⟩
/-- A reading's answer is no longer than what is read. -/
theorem rdA_len : ∀ (n : Nat) (l : List UInt8), l.length = n → ∀ (o : Ordr) (acc0 : List Sym) (at_ : Nat) (acc : List Sym) (q e : Int), rdA o acc0 at_ l = (acc, q, e) → 24 * acc.length ≤ 24 * acc0.length + l.length := by
  intro n
  induction n using Nat.strongRecOn with
  | ind n ih =>
    intro l hl o acc0 at_ acc q e h
    rw [rdA] at h
    split at h
    · simp only [Prod.mk.injEq] at h
      obtain ⟨rfl, _⟩ := h
      omega
    · split at h
      · simp only [Prod.mk.injEq] at h
        obtain ⟨rfl, _⟩ := h
        simp
      · split at h
        · simp only [Prod.mk.injEq] at h
          obtain ⟨rfl, _⟩ := h
          simp
        · split at h
          · simp only [Prod.mk.injEq] at h
            obtain ⟨rfl, _⟩ := h
            simp
          · split at h
            · have := ih (l.drop 24).length (by simp; omega) _ rfl _ _ _ _ _ _ h
              simp only [List.length_drop, List.length_append, List.length_singleton] at this
              omega
            · simp only [Prod.mk.injEq] at h
              obtain ⟨rfl, _⟩ := h
              simp
theorem readOf_len {l : List UInt8} {acc : List Sym} {q e : Int} (h : readOf l = (acc, q, e)) : 24 * acc.length ≤ l.length := by
  unfold readOf at h
  split at h
  · simp only [Prod.mk.injEq] at h
    obtain ⟨rfl, _⟩ := h
    simp
  · split at h
    · simp only [Prod.mk.injEq] at h
      obtain ⟨rfl, _⟩ := h
      simp
    · have := rdA_len _ _ rfl _ _ _ _ _ _ h
      simp at this
      omega
theorem SyI.to {s s' : St} {p : Nat} {b : Syb} {lab : Nat → Option Nat} {fs : Fs} {pv : List (V × List D)} {al al' : List (Nat × List V)} (h : SyI s p b lab fs pv al) (h' : Hp 6 s' p b.R lab fs pv al') : SyI s' p b lab fs pv al' := ⟨h', h.f1, h.f2, h.f4, h.f5, h.ff, h.hh, h.kw, h.none, h.small, h.total⟩
end Go.Sh
