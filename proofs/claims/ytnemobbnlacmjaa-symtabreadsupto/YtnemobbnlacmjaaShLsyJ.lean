/- Lists of symbols: a list more is handed in. -/
import Derived.Test.YtnemobbnlacmjaaShLsyI
import Derived.Test.YtnemobbnlacmjaaShBe
set_option linter.unusedVariables false
set_option linter.unusedSimpArgs false
namespace Go.Sh
section
variable {pr : Prog} (hp : Sub syFns pr) {st : St} {p : Nat} {b : Syb} {lab : Nat → Option Nat} {fs : Fs} {pv : List (V × List D)} {al : List (Nat × List V)}
include hp
theorem callW_OwnY (h : SyI st p b lab fs pv al) (hfr : b.fr.length ≤ 2) {l : V} {n : Nat} {L : List D} {j : Option Nat} (hl : LR st 6 l n (ofDs L) j) (hj : Lone st lab pv al (b.fr.length + 6) j) (hLk : ∀ d ∈ L, KI d) (hn : n ≤ 1099511627776) (ht : b.total + n ≤ 549755813888) (hkl : b.kv.length ≤ 899998000) {Q : V → St → Prop}
    (hQ : ∀ s b' lab' fs' pv', SyI s p b' lab' fs' pv' al → b'.fr.length ≤ 2 → b'.total = b.total + n → b'.kv.length ≤ b.kv.length + 15 → Q (.tup []) s) : CallW pr 206 [.ptr p 0, l] st Q := by
  refine .run wSy (hp.at 7 rfl) rfl ?_
  rw [start_raw _ rfl]
  refine codeC_of ?_
  have hrow := h.hp.row
  simp only [Syb.R] at hrow
  have htot := h.total
  have hla := (h.none (b.fr.length + 6) (Nat.le_refl _)).1
  have hll := hl.len
  have hLl : L.length = n * 6 := (hl.lst).2.2
  have h0 := h.hp.set (a := b.fr.length + 6) (by omega) hj hl (fun c hc r hr e => by
    rcases (hj r hr).2 with e1 | ⟨e1, _⟩
    · rw [hla] at e1; cases e1
    · exact e1 c e)
  have wt : IntKind.wrap .i64 (b.total + n) = b.total + n := wrap_i64 (by omega) (by omega)
  have hset : ∀ cs, st.setBlk p (.row cs) = some (st.put p cs) := fun cs => setBlk_put h.hp.fl
  obtain ⟨h1, g1⟩ := h0.put (R' := [.d (.i .i64 (b.total + n)), .d (.b false), b.F, b.H, b.K, b.W]) rfl
  obtain ⟨s1, hs1⟩ : ∃ s1, s1 = st.put p [.d (.i .i64 (b.total + n)), .d (.b false), b.F, b.H, b.K, b.W] := ⟨_, rfl⟩
  rw [← hs1] at h1 g1
  have hrow1 := h1.row
  have hpl1 := row_lt hrow1
  have hv1 := vwV_lit s1 l
  have hl1 := h1.one (a := b.fr.length + 6) updF_eq
  simp [F206_spindlelaw10_Symbols_Own, wSy, hrow, hset, lay, hll, wt, ← hs1, hrow1, fillV, reps, ofDs, hl1, hpl1]
  refine (h1.push _).app (a := 1) (by omega) (by rw [updF_ne (by omega)]; exact h.f1) hv1 (by simp) rfl (by have := h.small; omega) (by have := h.small; omega) ?_
  intro s2 F' j1 h2 g2 n2
  have hrow2 := h2.row
  have hset2 : ∀ cs, s2.setBlk p (.row cs) = some (s2.put p cs) := fun cs => setBlk_put h2.fl
  have hF1 := h2.one (a := 1) updF_eq
  obtain ⟨h3, g3⟩ := h2.put (R' := [.d (.i .i64 (b.total + n)), .d (.b false), F', b.H, b.K, b.W]) rfl
  obtain ⟨s3, hs3⟩ : ∃ s3, s3 = s2.put p [.d (.i .i64 (b.total + n)), .d (.b false), F', b.H, b.K, b.W] := ⟨_, rfl⟩
  rw [← hs3] at h3 g3
  have hrow3 := h3.row
  simp [hrow2, hset2, lay, hF1, ← hs3]
  have hlst := ((h3.lr (b.fr.length + 6) (6, n, l, ofDs L) (by rw [updF_ne (by omega), updF_eq])).lst).1
  have hpl3 := row_lt hrow3
  refine drawn3 9 [0, 1, 2, 3, 4, 6] [5, 7, 8] [0] (by decide) ?_
  simp [picks, hrow3, fillV, reps, ofDs, hpl3]
  have n53 : lab 53 = none ∧ fs 53 = none := h.none 53 (by omega)
  refine h3.copy6 hlst (by omega) (by rw [upd_ne (by omega), upd_ne (by omega)]; exact n53.1) (by rw [updF_ne (by omega), updF_ne (by omega)]; exact n53.2) ?_
  intro s4 c h4 g4 onec
  have hrow4 := h4.row
  have hpl4 := row_lt hrow4
  have hv4 := vwV_lit s4 c
  simp [hrow4, hpl4, onec]
  refine (h4.push _).app (a := 2) (by omega) (by rw [updF_ne (by omega), updF_ne (by omega)]; exact h.f2) hv4 (by simp) rfl (by have := h.small; omega) (by have := h.small; omega) ?_
  intro s5 H' j2 h5 g5 n5
  have hrow5 := h5.row
  have hset5 : ∀ cs, s5.setBlk p (.row cs) = some (s5.put p cs) := fun cs => setBlk_put h5.fl
  have hH1 := h5.one (a := 2) updF_eq
  obtain ⟨h6, g6⟩ := h5.put (R' := [.d (.i .i64 (b.total + n)), .d (.b false), F', H', b.K, b.W]) rfl
  obtain ⟨s6, hs6⟩ : ∃ s6, s6 = s5.put p [.d (.i .i64 (b.total + n)), .d (.b false), F', H', b.K, b.W] := ⟨_, rfl⟩
  rw [← hs6] at h6 g6
  have hrow6 := h6.row
  have hhl : b.held.length = b.fr.length := by simpa using (h.hp.lr _ _ h.f2).1
  obtain ⟨labF, hlabF⟩ : ∃ labF, labF = upd (upd (upd lab (b.fr.length + 6) j) 1 j1) 2 j2 := ⟨_, rfl⟩
  obtain ⟨fsF, hfsF⟩ : ∃ fsF : Fs, fsF = updF (updF (updF fs (b.fr.length + 6) (some (6, n, l, ofDs L))) 1 (some (1, b.fr.length + 1, F', b.fr.map (·.1) ++ [l]))) 2 (some (1, b.fr.length + 1, H', b.held ++ [c])) := ⟨_, rfl⟩
  rw [← hlabF, ← hfsF] at h6
  have hI : SyI s6 p ⟨b.total + n, F', H', b.K, b.W, b.fr ++ [(l, L)], b.held ++ [c], b.kv, b.wv⟩ labF fsF ((c, L) :: pv) al := by
    rw [hlabF, hfsF] at h6 ⊢
    refine ⟨h6, ?_, ?_, ?_, ?_, ?_, ?_, fun i k w hk hw => (h.kw i k w hk hw).mono fun x hx => List.mem_cons_of_mem _ hx, ?_, ⟨by simp; omega, h.small.2⟩, ⟨by show 0 ≤ b.total + (n : Int); omega, ht⟩⟩
    · rw [updF_ne (by omega), updF_eq]; simp
    · rw [updF_eq]; simp
    · rw [updF_ne (by omega), updF_ne (by omega), updF_ne (by omega)]; exact h.f4
    · rw [updF_ne (by omega), updF_ne (by omega), updF_ne (by omega)]; exact h.f5
    · intro i x hx
      have hx : (b.fr ++ [(l, L)])[i]? = some x := hx
      rcases Nat.lt_or_ge i b.fr.length with hi | hi
      · obtain ⟨n', f1, f2, f3⟩ := h.ff i x (get_app_lt hx hi)
        exact ⟨n', by rw [updF_ne (by omega), updF_ne (by omega), updF_ne (by omega)]; exact f1, f2, f3⟩
      · have hil := (List.getElem?_eq_some_iff.1 hx).1
        rw [List.length_append, List.length_singleton] at hil
        have : i = b.fr.length := by omega
        subst this
        rw [get_last rfl] at hx
        obtain rfl := Option.some.inj hx
        exact ⟨n, by rw [updF_ne (by omega), updF_ne (by omega), updF_eq], hn, hLk⟩
    · intro i x y hx hy
      have hx : (b.fr ++ [(l, L)])[i]? = some x := hx
      have hy : (b.held ++ [c])[i]? = some y := hy
      rcases Nat.lt_or_ge i b.fr.length with hi | hi
      · exact List.mem_cons_of_mem _ (h.hh i x y (get_app_lt hx hi) (get_app_lt hy (by omega)))
      · have hil := (List.getElem?_eq_some_iff.1 hx).1
        rw [List.length_append, List.length_singleton] at hil
        have : i = b.fr.length := by omega
        subst this
        rw [get_last rfl] at hx
        rw [get_last hhl.symm] at hy
        obtain rfl := Option.some.inj hx
        obtain rfl := Option.some.inj hy
        exact List.mem_cons_self
    · intro a ha
      have ha : (b.fr ++ [(l, L)]).length + 6 ≤ a := ha
      rw [List.length_append, List.length_singleton] at ha
      rw [upd_ne (by omega), upd_ne (by omega), upd_ne (by omega), updF_ne (by omega), updF_ne (by omega), updF_ne (by omega)]
      exact h.none a (by omega)
  have hlF6 := h6.len (a := 1) (v := F') (n := b.fr.length + 1) (by rw [hfsF, updF_ne (by omega), updF_eq])
  simp [hrow5, hset5, lay, hH1, ← hs6, hrow6, hlF6]
  by_cases hc : 3 ≤ b.fr.length + 1
  · have hcI : (3 : Int) ≤ (b.fr.length : Int) + 1 := by omega
    simp [hc, hcI, wSy]
    refine callW_writeY hp hI (by show b.kv.length ≤ _; omega) ?_
    intro s7 b' lab' fs' pv' hI' e1 e2 e3 e4
    simp [wSy, FinW]
    refine hQ _ b' lab' fs' pv' hI' (by rw [e1]; simp) e3 ?_
    rw [e4]
    show b.kv.length + 5 * (b.fr ++ [(l, L)]).length ≤ _
    rw [List.length_append, List.length_singleton]
    omega
  · have hcI : ¬ (3 : Int) ≤ (b.fr.length : Int) + 1 := by omega
    simp [hc, hcI, FinW]
    exact hQ _ _ _ _ _ hI (by show (b.fr ++ [(l, L)]).length ≤ 2; rw [List.length_append, List.length_singleton]; omega) rfl (by show b.kv.length ≤ _; omega)
end
end Go.Sh
