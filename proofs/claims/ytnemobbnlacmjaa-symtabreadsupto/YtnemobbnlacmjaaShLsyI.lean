/- Lists of symbols: they are written over whole. -/
import Derived.Test.YtnemobbnlacmjaaShLsyH
set_option linter.unusedVariables false
set_option linter.unusedSimpArgs false
namespace Go.Sh
section
variable {pr : Prog} (hp : Sub syFns pr) {st : St} {p : Nat} {b : Syb} {lab : Nat → Option Nat} {fs : Fs} {pv : List (V × List D)} {al : List (Nat × List V)}
theorem Pr2.two6 {s : St} {R : List V} {lab : Nat → Option Nat} {fs : Fs} {pv : List (V × List D)} {al : List (Nat × List V)} (h : Hp 6 s p R lab fs pv al) {k w : V} (hk : Pr2 pv k w) : ∃ L, Lst s 6 k L ∧ Lst s 6 w L ∧ (∀ d ∈ L, KI d) ∧ L.length ≤ 9223372036854775806 := by
  obtain ⟨L, h1, h2, h3, h4⟩ := hk
  exact ⟨L, (h.pv _ h1).1, (h.pv _ h2).1, h3, by omega⟩
theorem SyI.fh (h : SyI st p b lab fs pv al) : ∀ (i : Nat) f g, (b.fr.map (·.1))[i]? = some f → b.held[i]? = some g → ∃ L, Lst st 6 f L ∧ Lst st 6 g L ∧ (∀ d ∈ L, KI d) ∧ L.length ≤ 9223372036854775806 := by
  intro i f g hf hg
  simp only [List.getElem?_map, Option.map_eq_some_iff] at hf
  obtain ⟨x, hx, rfl⟩ := hf
  obtain ⟨n, f1, f2, f3⟩ := h.ff i x hx
  have f4 := h.hh i x g hx hg
  have hl := (h.hp.lr _ _ f1).lst
  exact ⟨x.2, hl.1, (h.hp.pv _ f4).1, f3, by have := hl.2.2; simp only at this; omega⟩
include hp
theorem callW_writeY (h : SyI st p b lab fs pv al) (hkl : b.kv.length ≤ 899999000) {Q : V → St → Prop} (hQ : ∀ s b' lab' fs' pv', SyI s p b' lab' fs' pv' al → b'.fr = [] → b'.held = [] → b'.total = b.total → b'.kv.length = b.kv.length + 5 * b.fr.length → Q (.tup []) s) : CallW pr 209 [.ptr p 0] st Q := by
  refine .run wSy (hp.at 6 rfl) rfl ?_
  rw [start_raw _ rfl]
  refine codeC_of ?_
  have hrow := h.hp.row
  simp only [Syb.R] at hrow
  have hsm := h.small
  have hlK := h.hp.len h.f4
  simp [F209_spindlelaw10_Symbols_write]
  refine (callW_untouchedS hp h.hp rfl h.f1 h.f2 (by omega) h.fh).mono ?_
  rintro v s ⟨rfl, rfl⟩
  simp [wSy, hrow, hlK]
  refine loopY1 hp h ?_
  intro e1 s1 fs1 q0 q2 w1
  simp [q0, q2, wSy]
  have hl50 := (h.none 50 (by omega))
  refine loopY2 hp w1.hp hl50.1 h.total (base := b.kv.length) (by omega) ?_
  intro e2 s2 mo m E j50 r0 r2 r5 h2 hEk hm3 hEl
  simp [r0, r2, r5, wSy]
  have w3 : PG s2 p b 0 mo m E b.K b.W b.kv b.wv (upd lab 50 j50) (updF fs1 50 (some (6, m, mo, ofDs E))) pv al := by
    refine ⟨h2, ?_, ?_, ?_, updF_eq, hEk, hm3, h.kw, ?_, ?_, fun t ht => absurd ht (by omega)⟩
    · rw [updF_ne (by omega), w1.same 1 (by omega)]; exact h.f1
    · rw [updF_ne (by omega), w1.same 4 (by omega)]; exact h.f4
    · rw [updF_ne (by omega), w1.same 5 (by omega)]; exact h.f5
    · intro t x hx _
      have htl := (List.getElem?_eq_some_iff.1 hx).1
      obtain ⟨n, f1, f2, _⟩ := w1.fr t x hx
      rw [if_pos htl] at f1
      exact ⟨n, by rw [updF_ne (by omega)]; exact f1, f2⟩
    · intro a ha hb
      rw [upd_ne hb, updF_ne hb, w1.same a (by omega)]
      exact h.none a ha
  refine loopY3 hp w3 hsm ?_
  intro e3 s3 K W kv wv lab3 fs3 pv3 u0 p3
  have hrow3 := p3.hp.row
  obtain ⟨hk1, hk2⟩ := p3.klen
  have hset3 : ∀ cs, s3.setBlk p (.row cs) = some (s3.put p cs) := fun cs => setBlk_put p3.hp.fl
  have h4 := p3.hp.drop (a := 50) (by omega)
  obtain ⟨h5, g5⟩ := h4.put (R' := [.d (.i .i64 b.total), .d (.b false), .d (.sl 0 false []), b.H, K, W]) rfl
  have hrow5 := h5.row
  have hset5 : ∀ cs ds, (s3.put p cs).setBlk p (.row ds) = some (s3.put p ds) := fun cs ds => by rw [setBlk_put (by rw [put_floor]; exact p3.hp.fl), put_put]
  obtain ⟨h6, g6⟩ := h5.put (R' := [.d (.i .i64 b.total), .d (.b false), .d (.sl 0 false []), .d (.sl 0 false []), K, W]) rfl
  rw [put_put] at h6
  have hrow6 := h6.row
  have hset6 : ∀ cs, s3.put p cs = s3.put p cs := fun _ => rfl
  have hK1 := h6.one (a := 4) (v := K) (by rw [updF_ne (by omega)]; exact p3.f4)
  have hW1 := h6.one (a := 5) (v := W) (by rw [updF_ne (by omega)]; exact p3.f5)
  simp [u0, wSy, hrow3, hset3, lay, hrow5, hset5, hrow6]
  obtain ⟨s6, hs6⟩ : ∃ s6, s6 = s3.put p [.d (.i .i64 b.total), .d (.b false), .d (.sl 0 false []), .d (.sl 0 false []), K, W] := ⟨_, rfl⟩
  rw [← hs6] at h6 ⊢
  refine (callW_sameAll hp h6 rfl (by rw [updF_ne (by omega)]; exact p3.f4) (by rw [updF_ne (by omega)]; exact p3.f5) (by omega) fun i k w hk hw => (p3.kw i k w hk hw).two6 h6).mono ?_
  rintro v s ⟨rfl, rfl⟩
  have hset7 : s.setBlk p (.row [.d (.i .i64 b.total), .d (.b false), .d (.sl 0 false []), .d (.sl 0 false []), K, W]) = some s := by rw [setBlk_put h6.fl, put_self h6.row]
  have hrow7 := h6.row
  simp [hrow7, lay, hset7, FinW]
  obtain ⟨z1, z2⟩ := p3.klen
  have h8 := (h6.nil (a := 1) (by omega) (sz := 1)).nil (a := 2) (by omega) (sz := 1)
  refine hQ s ⟨b.total, .d (.sl 0 false []), .d (.sl 0 false []), K, W, [], [], kv, wv⟩ _ _ pv3 ⟨h8, ?_, ?_, ?_, ?_, fun i x hx => (by cases hx), fun i x y hx => (by cases hx), p3.kw, ?_, ⟨by simp, by simp; omega⟩, h.total⟩ rfl rfl rfl (by simp; omega)
  · rw [updF_ne (by omega), updF_eq]; rfl
  · rw [updF_eq]; rfl
  · rw [updF_ne (by omega), updF_ne (by omega), updF_ne (by omega), p3.f4]; simp only [hk1]
  · rw [updF_ne (by omega), updF_ne (by omega), updF_ne (by omega), p3.f5]; simp only [hk1]
  · intro a ha
    have ha : 6 ≤ a := by simpa using ha
    rw [upd_ne (by omega), upd_ne (by omega), updF_ne (by omega), updF_ne (by omega)]
    by_cases h50 : a = 50
    · subst h50; rw [upd_eq, updF_eq]; exact ⟨rfl, rfl⟩
    rw [upd_ne h50, updF_ne h50]
    rcases Nat.lt_or_ge a (b.fr.length + 6) with h1 | h1
    · obtain ⟨t, rfl⟩ : ∃ t, a = t + 6 := ⟨a - 6, by omega⟩
      exact p3.gone t (by omega)
    · exact p3.none a h1 h50
theorem callW_HoldsT (h : SyI st p b lab fs pv al) : CallW pr 205 [.ptr p 0] st fun r s => s = st ∧ r = .d (.b true) := by
  have hs := h.small
  exact callW_HoldsY hp h.hp h.f1 h.f2 h.f4 h.f5 (by omega) (by omega) h.fh fun i k w hk hw => (h.kw i k w hk hw).two6 h.hp
end
end Go.Sh
