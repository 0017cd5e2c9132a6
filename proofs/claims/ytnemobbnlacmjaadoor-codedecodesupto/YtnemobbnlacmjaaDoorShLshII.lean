/- Shelves of instructions: a shelf is written over, a list more is handed in. -/
import Derived.Test.YtnemobbnlacmjaaDoorShLshIH
set_option linter.unusedVariables false
set_option linter.unusedSimpArgs false
namespace Go.Sh
section
variable {pr : Prog} (hp : Sub shiFns pr) {st : St} {p : Nat} {b : Shb} {lab : Nat → Option Nat} {fs : Fs} {pv : List (V × List D)} {al : List (Nat × List V)}
theorem Pr2.two {s : St} {R : List V} {lab : Nat → Option Nat} {fs : Fs} {pv : List (V × List D)} {al : List (Nat × List V)} (h : Hp 5 s p R lab fs pv al) {k w : V} (hk : Pr2 pv k w) : ∃ L, Lst s 5 k L ∧ Lst s 5 w L ∧ (∀ d ∈ L, KI d) ∧ L.length ≤ 9223372036854775806 := by
  obtain ⟨L, h1, h2, h3, h4⟩ := hk
  exact ⟨L, (h.pv _ h1).1, (h.pv _ h2).1, h3, by omega⟩
theorem PW.two {s : St} {mk : Int} {K W : V} {kv wv : List V} {lab : Nat → Option Nat} {fs : Fs} {pv : List (V × List D)} (h : PW s p b b.fr.length b.fr.length mk K W kv wv lab fs pv al) : ∀ (i : Nat) f g, kv[i]? = some f → wv[i]? = some g → ∃ L, Lst s 5 f L ∧ Lst s 5 g L ∧ (∀ d ∈ L, KI d) ∧ L.length ≤ 9223372036854775806 := by
  intro i f g hf hg
  obtain ⟨hk1, hk2⟩ := h.klen
  have hi := (List.getElem?_eq_some_iff.1 hf).1
  rcases Nat.lt_or_ge i b.kv.length with h1 | h1
  · exact (h.old i f g h1 hf hg).two h.hp
  obtain ⟨t, rfl⟩ : ∃ t, i = b.kv.length + t := ⟨i - b.kv.length, by omega⟩
  rcases Nat.lt_or_ge t b.fr.length with h2 | h2
  · obtain ⟨x, hx⟩ : ∃ x, b.fr[t]? = some x := ⟨_, List.getElem?_eq_getElem h2⟩
    obtain ⟨M, n, f1, f2, f3, f4⟩ := h.fr t x hx
    obtain ⟨f5, w, f6, f7⟩ := f4 h2
    rw [hf] at f5
    rw [hg] at f6
    obtain rfl := Option.some.inj f5
    obtain rfl := Option.some.inj f6
    have hl := (h.hp.lr _ _ f1).lst
    exact ⟨M, hl.1, (h.hp.pv _ f7).1, f3, by have := hl.2.2; simp only at this; omega⟩
  · obtain ⟨u, rfl⟩ : ∃ u, t = b.fr.length + u := ⟨t - b.fr.length, by omega⟩
    obtain ⟨g', w', L, f1, f2, f3, f4, f5, f6⟩ := h.few u (by omega)
    rw [← Nat.add_assoc] at hf hg
    rw [hf] at f1
    rw [hg] at f2
    obtain rfl := Option.some.inj f1
    obtain rfl := Option.some.inj f2
    refine ⟨L, ?_, (h.hp.pv _ f3).1, f4, by omega⟩
    rcases f6 with e | ⟨n, e⟩
    · exact (h.hp.pv _ e).1
    · exact (e.lst).1
include hp
theorem callW_writeI (h : ShI st p b lab fs pv al) {Q : V → St → Prop} (hQ : ∀ s b' lab' fs' pv', ShI s p b' lab' fs' pv' al → b'.fr = [] → b'.held = [] → b'.total = b.total → b'.kv.length = b.kv.length + 2 * b.fr.length → Q (.tup []) s) (hkl : b.kv.length ≤ 899999000) : CallW pr 218 [.ptr p 0] st Q := by
  refine .run wSh (hp.at 8 rfl) rfl ?_
  rw [start_raw _ rfl]
  refine codeC_of ?_
  have hrow := h.hp.row
  simp only [Shb.R] at hrow
  have hset : ∀ cs, st.setBlk p (.row cs) = some (st.put p cs) := fun cs => setBlk_put h.hp.fl
  obtain ⟨h1, g1⟩ := h.hp.put (R' := [.d (.i .i64 b.mark), .d (.i .i64 b.total), .d (.b false), .d (.sl 0 false []), b.H, b.K, b.W]) rfl
  have hrow1 := h1.row
  have hset1 : ∀ cs ds, (st.put p cs).setBlk p (.row ds) = some (st.put p ds) := fun cs ds => by rw [setBlk_put (by rw [put_floor]; exact h.hp.fl), put_put]
  obtain ⟨h2, g2⟩ := h1.put (R' := [.d (.i .i64 b.mark), .d (.i .i64 b.total), .d (.b false), .d (.sl 0 false []), .d (.sl 0 false []), b.K, b.W]) rfl
  rw [put_put] at h2
  simp [F218_spindlelaw3_Shelf_write, hrow, hset, lay, hrow1, hset1]
  have w0 : PW (st.put p [.d (.i .i64 b.mark), .d (.i .i64 b.total), .d (.b false), .d (.sl 0 false []), .d (.sl 0 false []), b.K, b.W]) p b 0 0 b.mark b.K b.W b.kv b.wv lab fs pv al := ⟨h2, h.f1, h.f4, h.f5, fun t k w _ hk hw => h.kw t k w hk hw, fun t x hx => by
    obtain ⟨n, f1, f2, f3⟩ := h.ff t x hx
    exact ⟨x.2, n, f1, f2, f3, fun ht => absurd ht (by omega)⟩, fun t ht => absurd ht (by omega), h.none⟩
  have hsm : b.fr.length ≤ 3 ∧ b.kv.length ≤ 900000000 := h.small
  refine loopI1 hp w0 hsm ?_
  intro e1 s1 mk1 K1 W1 kv1 wv1 lab1 fs1 pv1 q0 q2 p1
  have hrowa := p1.hp.row
  obtain ⟨own, how⟩ : ∃ own, own = b.kv.length + b.fr.length := ⟨_, rfl⟩
  have hlK : lenV K1 = some own := by rw [how]; exact p1.hp.len p1.f4
  simp [q0, q2, hrowa, hlK]
  refine loopI2 hp p1 hsm how ?_
  intro e2 s2 mk2 K2 W2 kv2 wv2 lab2 fs2 pv2 r0 r2 r5 p2
  simp [r0, r2, r5]
  obtain ⟨hl1, hl2⟩ := p2.klen
  refine (callW_keptI hp p2.hp rfl p2.f4 p2.f5 (by omega) p2.two).mono ?_
  rintro v s ⟨rfl, rfl⟩
  have hrowb := p2.hp.row
  obtain ⟨K3, c1, h3⟩ := p2.hp.trunc (a := 4) (m := own) (by omega) p2.f4 (by omega)
  obtain ⟨W3, c2, h4⟩ := h3.trunc (a := 5) (m := own) (by omega) (by rw [updF_ne (by omega)]; exact p2.f5) (by omega)
  have hset2 : ∀ cs, s.setBlk p (.row cs) = some (s.put p cs) := fun cs => setBlk_put p2.hp.fl
  have hset3 : ∀ cs ds, (s.put p cs).setBlk p (.row ds) = some (s.put p ds) := fun cs ds => by rw [setBlk_put (by rw [put_floor]; exact p2.hp.fl), put_put]
  have hK1 := h4.one (a := 4) (v := K3) (by rw [updF_ne (by omega), updF_eq])
  have hW1 := h4.one (a := 5) (v := W3) updF_eq
  obtain ⟨h5, g5⟩ := h4.put (R' := [.d (.i .i64 mk2), .d (.i .i64 b.total), .d (.b false), .d (.sl 0 false []), .d (.sl 0 false []), K3, W2]) rfl
  have hrow5 := h5.row
  obtain ⟨h6, g6⟩ := h5.put (R' := [.d (.i .i64 mk2), .d (.i .i64 b.total), .d (.b false), .d (.sl 0 false []), .d (.sl 0 false []), K3, W3]) rfl
  rw [put_put] at h6
  simp [hrowb, hset2, hset3, lay, c1, c2, hK1, hW1, hrow5]
  obtain ⟨s6, hs6⟩ : ∃ s6, s6 = s.put p [.d (.i .i64 mk2), .d (.i .i64 b.total), .d (.b false), .d (.sl 0 false []), .d (.sl 0 false []), K3, W3] := ⟨_, rfl⟩
  rw [← hs6] at h6 ⊢
  have ht0 := h.total
  have gt : ∀ {l : List V} {t : Nat} {y : V}, l[t]? = some y → t < own → (l.take own)[t]? = some y := fun h1 h2 => by rw [List.getElem?_take, if_pos h2]; exact h1
  have gt' : ∀ {l : List V} {t : Nat} {y : V}, (l.take own)[t]? = some y → l[t]? = some y := fun h1 => by
    rw [List.getElem?_take] at h1
    split at h1
    · exact h1
    · cases h1
  have w3 : PM s6 p b 0 mk2 K3 W3 (kv2.take own) (wv2.take own) lab2 (updF (updF fs2 4 (some (1, own, K3, kv2.take own))) 5 (some (1, own, W3, wv2.take own))) pv2 al := by
    refine ⟨h6, by rw [updF_ne (by omega), updF_ne (by omega)]; exact p2.f1, by rw [updF_ne (by omega), updF_eq, ← how, Nat.add_zero], by rw [updF_eq, ← how, Nat.add_zero], fun t k w ht hk hw => p2.old t k w ht (gt' hk) (gt' hw), ?_, fun t ht => absurd ht (by omega), ?_, fun t ht => absurd ht (by omega)⟩
    · intro t x hx
      have htl := (List.getElem?_eq_some_iff.1 hx).1
      obtain ⟨M, n, f1, f2, f3, f4⟩ := p2.fr t x hx
      obtain ⟨f5, w, f6, f7⟩ := f4 htl
      have hl := ((p2.hp.lr _ _ f1).lst).2.2
      simp only at hl
      exact ⟨M, w, gt f5 (by omega), gt f6 (by omega), f7, f3, by omega, fun ht => absurd ht (by omega), fun _ => ⟨n, by rw [updF_ne (by omega), updF_ne (by omega)]; exact f1, f2⟩⟩
    · intro a ha
      rw [updF_ne (by omega), updF_ne (by omega)]
      exact p2.none a ha
  obtain ⟨m, hm⟩ : ∃ m : Nat, b.total + 70 = (m : Int) := ⟨(b.total + 70).toNat, by omega⟩
  refine loopI3 hp w3 hsm hm (by omega) how ?_
  intro e3 s7 mk3 K4 W4 kv4 wv4 lab4 fs4 pv4 p4
  simp [FinW]
  obtain ⟨hm1, hm2⟩ := p4.klen
  have h8 := (p4.hp.nil (a := 1) (by omega) (sz := 1)).nil (a := 2) (by omega) (sz := 1)
  refine hQ s7 ⟨mk3, b.total, .d (.sl 0 false []), .d (.sl 0 false []), K4, W4, [], [], kv4, wv4⟩ _ _ pv4 ⟨h8, ?_, ?_, ?_, ?_, fun i x hx => (by cases hx), fun i x y hx => (by cases hx), ?_, ?_, ⟨by simp, by simp; omega⟩, h.total⟩ rfl rfl rfl (by simp; omega)
  · rw [updF_ne (by omega), updF_eq]; rfl
  · rw [updF_eq]; rfl
  · rw [updF_ne (by omega), updF_ne (by omega), p4.f4]; simp only [hm1]
  · rw [updF_ne (by omega), updF_ne (by omega), p4.f5]; simp only [hm1]
  · intro i k w hk hw
    have hk : kv4[i]? = some k := hk
    have hw : wv4[i]? = some w := hw
    have hi := (List.getElem?_eq_some_iff.1 hk).1
    rcases Nat.lt_or_ge i b.kv.length with h1 | h1
    · exact p4.old i k w h1 hk hw
    obtain ⟨t, rfl⟩ : ∃ t, i = b.kv.length + t := ⟨i - b.kv.length, by omega⟩
    rcases Nat.lt_or_ge t b.fr.length with h2 | h2
    · obtain ⟨x, hx⟩ : ∃ x, b.fr[t]? = some x := ⟨_, List.getElem?_eq_getElem h2⟩
      obtain ⟨M, w', f1, f2, f3, f4, f5, f6, _⟩ := p4.fr t x hx
      rw [hk] at f1
      rw [hw] at f2
      obtain rfl := Option.some.inj f1
      obtain rfl := Option.some.inj f2
      exact ⟨M, f6 h2, f3, f4, by omega⟩
    · obtain ⟨u, rfl⟩ : ∃ u, t = b.fr.length + u := ⟨t - b.fr.length, by omega⟩
      rw [← Nat.add_assoc] at hk hw
      obtain ⟨g', w', f1, f2, f3⟩ := p4.many u (by omega)
      rw [hk] at f1
      rw [hw] at f2
      obtain rfl := Option.some.inj f1
      obtain rfl := Option.some.inj f2
      exact f3
  · intro a ha
    have ha : 6 ≤ a := by simpa using ha
    rw [upd_ne (by omega), upd_ne (by omega), updF_ne (by omega), updF_ne (by omega)]
    rcases Nat.lt_or_ge a (b.fr.length + 6) with h1 | h1
    · obtain ⟨t, rfl⟩ : ∃ t, a = t + 6 := ⟨a - 6, by omega⟩
      exact p4.gone t (by omega)
    · exact p4.none a h1
omit hp in
theorem ShI.fh (h : ShI st p b lab fs pv al) : ∀ (i : Nat) f g, (b.fr.map (·.1))[i]? = some f → b.held[i]? = some g → ∃ L, Lst st 5 f L ∧ Lst st 5 g L ∧ (∀ d ∈ L, KI d) ∧ L.length ≤ 9223372036854775806 := by
  intro i f g hf hg
  simp only [List.getElem?_map, Option.map_eq_some_iff] at hf
  obtain ⟨x, hx, rfl⟩ := hf
  obtain ⟨n, f1, f2, f3⟩ := h.ff i x hx
  obtain ⟨n', f4, f5⟩ := h.hh i x g hx hg
  have hl := (h.hp.lr _ _ f1).lst
  exact ⟨x.2, hl.1, by rw [f4]; exact ⟨rfl, f5⟩, f3, by have := hl.2.2; simp only at this; omega⟩
theorem callW_HoldsS (h : ShI st p b lab fs pv al) : CallW pr 219 [.ptr p 0] st fun r s => s = st ∧ r = .d (.b true) := by
  have hs := h.small
  exact callW_HoldsI hp h.hp h.f1 h.f2 h.f4 h.f5 (by omega) (by omega) h.fh fun i k w hk hw => (h.kw i k w hk hw).two h.hp
theorem callW_OwnI (h : ShI st p b lab fs pv al) (hfr : b.fr.length ≤ 2) {l : V} {n : Nat} {L : List D} {j : Option Nat} (hl : LR st 5 l n (ofDs L) j) (hj : Lone st lab pv al (b.fr.length + 6) j) (hLk : ∀ d ∈ L, KI d) (hn : n ≤ 1099511627776) (ht : b.total + n ≤ 549755813888) (hkl : b.kv.length ≤ 899998000) {Q : V → St → Prop}
    (hQ : ∀ s b' lab' fs' pv', ShI s p b' lab' fs' pv' al → b'.fr.length ≤ 2 → b'.total = b.total + n → b'.kv.length ≤ b.kv.length + 6 → Q (.d (.b true)) s) : CallW pr 214 [.ptr p 0, l] st Q := by
  refine .run wSh (hp.at 9 rfl) rfl ?_
  rw [start_raw _ rfl]
  refine codeC_of ?_
  have hrow := h.hp.row
  simp only [Shb.R] at hrow
  have htot := h.total
  have hla := (h.none (b.fr.length + 6) (Nat.le_refl _)).1
  have hll := hl.len
  have hLl : L.length = n * 5 := (hl.lst).2.2
  have h0 := h.hp.set (a := b.fr.length + 6) (by omega) hj hl (fun c hc r hr e => by
    rcases (hj r hr).2 with e1 | ⟨e1, _⟩
    · rw [hla] at e1; cases e1
    · exact e1 c e)
  have wt : IntKind.wrap .i64 (b.total + n) = b.total + n := wrap_i64 (by omega) (by omega)
  have hset : ∀ cs, st.setBlk p (.row cs) = some (st.put p cs) := fun cs => setBlk_put h.hp.fl
  obtain ⟨h1, g1⟩ := h0.put (R' := [.d (.i .i64 b.mark), .d (.i .i64 (b.total + n)), .d (.b false), b.F, b.H, b.K, b.W]) rfl
  obtain ⟨s1, hs1⟩ : ∃ s1, s1 = st.put p [.d (.i .i64 b.mark), .d (.i .i64 (b.total + n)), .d (.b false), b.F, b.H, b.K, b.W] := ⟨_, rfl⟩
  rw [← hs1] at h1 g1
  have hrow1 := h1.row
  have hpl1 := row_lt hrow1
  have hv1 := vwV_lit s1 l
  have hl1 := h1.one (a := b.fr.length + 6) updF_eq
  simp [F214_spindlelaw3_Shelf_Own, wSh, hrow, hset, lay, hll, wt, ← hs1, hrow1, fillV, reps, ofDs, hl1, hpl1]
  refine (h1.push _).app (a := 1) (by omega) (by rw [updF_ne (by omega)]; exact h.f1) hv1 (by simp) rfl (by have := h.small; omega) (by have := h.small; omega) ?_
  intro s2 F' j1 h2 g2 n2
  have hrow2 := h2.row
  have hset2 : ∀ cs, s2.setBlk p (.row cs) = some (s2.put p cs) := fun cs => setBlk_put h2.fl
  have hF1 := h2.one (a := 1) updF_eq
  obtain ⟨h3, g3⟩ := h2.put (R' := [.d (.i .i64 b.mark), .d (.i .i64 (b.total + n)), .d (.b false), F', b.H, b.K, b.W]) rfl
  obtain ⟨s3, hs3⟩ : ∃ s3, s3 = s2.put p [.d (.i .i64 b.mark), .d (.i .i64 (b.total + n)), .d (.b false), F', b.H, b.K, b.W] := ⟨_, rfl⟩
  rw [← hs3] at h3 g3
  have hrow3 := h3.row
  simp [hrow2, hset2, lay, hF1, ← hs3]
  have hlst := ((h3.lr (b.fr.length + 6) (5, n, l, ofDs L) (by rw [updF_ne (by omega), updF_eq])).lst).1
  refine drawn2 8 [0] (by decide) (by decide) ?_
  simp [hrow3]
  refine ⟨.d (.sl n true L), (callW_copyI hp hlst hLk (by omega)).mono ?_, ?_⟩
  · rintro r s ⟨rfl, n', rfl, hn'⟩
    have : n' = n := by omega
    rw [this]
    exact ⟨rfl, rfl⟩
  simp [fillV, reps, ofDs, lay]
  refine h3.app (a := 2) (by omega) (by rw [updF_ne (by omega), updF_ne (by omega)]; exact h.f2) (show vwV 1 s3 (.d (.sl 1 true [D.sl n true L])) = some (1, ofDs [D.sl n true L]) from rfl) (by simp [ofDs]) rfl (by have := h.small; omega) (by have := h.small; omega) ?_
  intro s4 H' j2 h4 g4 n4
  have hrow4 := h4.row
  have hset4 : ∀ cs, s4.setBlk p (.row cs) = some (s4.put p cs) := fun cs => setBlk_put h4.fl
  have hH1 := h4.one (a := 2) updF_eq
  obtain ⟨h5, g5⟩ := h4.put (R' := [.d (.i .i64 b.mark), .d (.i .i64 (b.total + n)), .d (.b false), F', H', b.K, b.W]) rfl
  obtain ⟨s5, hs5⟩ : ∃ s5, s5 = s4.put p [.d (.i .i64 b.mark), .d (.i .i64 (b.total + n)), .d (.b false), F', H', b.K, b.W] := ⟨_, rfl⟩
  rw [← hs5] at h5 g5
  have hrow5 := h5.row
  have hhl : b.held.length = b.fr.length := by simpa using (h.hp.lr _ _ h.f2).1
  obtain ⟨labF, hlabF⟩ : ∃ labF, labF = upd (upd (upd lab (b.fr.length + 6) j) 1 j1) 2 j2 := ⟨_, rfl⟩
  obtain ⟨fsF, hfsF⟩ : ∃ fsF : Fs, fsF = updF (updF (updF fs (b.fr.length + 6) (some (5, n, l, ofDs L))) 1 (some (1, b.fr.length + 1, F', b.fr.map (·.1) ++ [l]))) 2 (some (1, b.fr.length + 1, H', b.held ++ ofDs [D.sl n true L])) := ⟨_, rfl⟩
  rw [← hlabF, ← hfsF] at h5
  have hI : ShI s5 p ⟨b.mark, b.total + n, F', H', b.K, b.W, b.fr ++ [(l, L)], b.held ++ [.d (.sl n true L)], b.kv, b.wv⟩ labF fsF pv al := by
    rw [hlabF, hfsF] at h5 ⊢
    refine ⟨h5, ?_, ?_, ?_, ?_, ?_, ?_, h.kw, ?_, ⟨by simp; omega, h.small.2⟩, ⟨by show 0 ≤ b.total + (n : Int); omega, ht⟩⟩
    · rw [updF_ne (by omega), updF_eq]; simp
    · rw [updF_eq]; simp [ofDs]
    · rw [updF_ne (by omega), updF_ne (by omega), updF_ne (by omega)]; exact h.f4
    · rw [updF_ne (by omega), updF_ne (by omega), updF_ne (by omega)]; exact h.f5
    · intro i x hx
      have hx : (b.fr ++ [(l, L)])[i]? = some x := hx
      rcases Nat.lt_or_ge i b.fr.length with hi | hi
      · obtain ⟨n', f1, f2, f3⟩ := h.ff i x (get_app_lt hx hi)
        exact ⟨n', by rw [updF_ne (by omega), updF_ne (by omega), updF_ne (by omega)]; exact f1, f2, f3⟩
      · have hil := (List.getElem?_eq_some_iff.1 hx).1
        rw [List.length_append, List.length_singleton] at hil
        have : i = b.fr.length := by omega
        subst this
        rw [get_last rfl] at hx
        obtain rfl := Option.some.inj hx
        exact ⟨n, by rw [updF_ne (by omega), updF_ne (by omega), updF_eq], hn, hLk⟩
    · intro i x y hx hy
      have hx : (b.fr ++ [(l, L)])[i]? = some x := hx
      have hy : (b.held ++ [.d (.sl n true L)])[i]? = some y := hy
      rcases Nat.lt_or_ge i b.fr.length with hi | hi
      · exact h.hh i x y (get_app_lt hx hi) (get_app_lt hy (by omega))
      · have hil := (List.getElem?_eq_some_iff.1 hx).1
        rw [List.length_append, List.length_singleton] at hil
        have : i = b.fr.length := by omega
        subst this
        rw [get_last rfl] at hx
        rw [get_last hhl.symm] at hy
        obtain rfl := Option.some.inj hx
        obtain rfl := Option.some.inj hy
        exact ⟨n, rfl, hLl⟩
    · intro a ha
      have ha : (b.fr ++ [(l, L)]).length + 6 ≤ a := ha
      rw [List.length_append, List.length_singleton] at ha
      rw [upd_ne (by omega), upd_ne (by omega), upd_ne (by omega), updF_ne (by omega), updF_ne (by omega), updF_ne (by omega)]
      exact h.none a (by omega)
  have hlF5 := h5.len (a := 1) (v := F') (n := b.fr.length + 1) (by rw [hfsF, updF_ne (by omega), updF_eq])
  simp [hrow4, hset4, lay, hH1, ← hs5, hrow5, hlF5]
  by_cases hc : 3 ≤ b.fr.length + 1
  · have hcI : (3 : Int) ≤ (b.fr.length : Int) + 1 := by omega
    simp [hc, hcI]
    have hI5 := hI.hp.row
    refine (callW_untouchedI hp hI.hp rfl hI.f1 hI.f2 (by have := hI.small; omega) hI.fh).mono ?_
    rintro v s ⟨rfl, rfl⟩
    simp [wSh]
    refine callW_writeI hp hI ?_ (by show b.kv.length ≤ _; omega)
    intro s6 b' lab' fs' pv' hI' e1 e2 e3 e4
    simp [wSh]
    refine (callW_HoldsS hp hI').mono ?_
    rintro v s ⟨rfl, rfl⟩
    simp [FinW]
    refine hQ _ b' lab' fs' pv' hI' (by rw [e1]; simp) e3 ?_
    rw [e4]
    show b.kv.length + 2 * (b.fr ++ [(l, L)]).length ≤ _
    rw [List.length_append, List.length_singleton]
    omega
  · have hcI : ¬ (3 : Int) ≤ (b.fr.length : Int) + 1 := by omega
    simp [hc, hcI]
    refine (callW_HoldsS hp hI).mono ?_
    rintro v s ⟨rfl, rfl⟩
    simp [FinW]
    exact hQ _ _ _ _ pv hI (by show (b.fr ++ [(l, L)]).length ≤ 2; rw [List.length_append, List.length_singleton]; omega) rfl (by show b.kv.length ≤ _; omega)
end
end Go.Sh
