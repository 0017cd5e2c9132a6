/- Symbols that are read: SymtabReads. -/
import Derived.Test.YtnemobbnlacmjaaShLsyO
set_option linter.unusedVariables false
set_option linter.unusedSimpArgs false
namespace Go.Sh
theorem DY.gr {st s : St} {B : V} {N : Int} {jl : Option Nat} {cl : List V} {b : Syb} {lab : Nat → Option Nat} {fs : Fs} {pv : List (V × List D)} {al2 al3 : List (Nat × List V)} {P : V → Prop} (hD : DY st B N jl cl b lab fs pv al2) (g : Gr st s (fun _ => False) P) (hal : ∀ x ∈ al3, s.row x.1 = some x.2 ∧ st.heap.length ≤ x.1) : DY s B N jl cl b lab fs pv al3 := by
  have h0 := hD.sh.hp.al (0, [B, .d (.i .i64 N)]) List.mem_cons_self
  have hj := fun r (hr : jl = some r) => hD.sh.hp.al (r, cl) (List.mem_cons_of_mem _ (List.mem_append_left _ (mem_alo.2 ⟨hr, rfl⟩)))
  have k0 : s.row 0 = some [B, .d (.i .i64 N)] := by rw [g.keep 0 (row_lt h0.1) fun h => h]; exact h0.1
  have kj : ∀ r, jl = some r → s.row r = some cl := fun r hr => by rw [g.keep r (row_lt (hj r hr).1) fun h => h]; exact (hj r hr).1
  have hp1 := hD.sh.hp.new g fun _ _ h => h
  refine ⟨⟨hp1.fl, k0, ?_⟩, hD.sh.to (hp1.alset fun x hx => ?_), hD.buf, fun x hx => ?_⟩
  · obtain ⟨_, _, h3⟩ := hD.ln
    rcases h3 with h3 | ⟨r, c, e1, e2, e3, e4⟩
    · exact .inl h3
    · have : c = cl := by have := (hj r e1).1; rw [e3] at this; exact Option.some.inj this
      subst this
      exact .inr ⟨r, c, e1, e2, kj r e1, e4⟩
  · simp only [List.mem_cons, List.mem_append, mem_alo] at hx
    rcases hx with rfl | ⟨e1, e2⟩ | hx
    · exact ⟨k0, h0.2⟩
    · exact ⟨by rw [e2]; exact kj x.1 e1, (hj x.1 e1).2⟩
    · exact ⟨(hal x hx).1, hD.sh.hp.apNew (hal x hx).2⟩
  · have h1 := (hal x hx).2
    have h2 := row_lt h0.1
    exact ⟨by simp at h2; omega, fun e => by have := row_lt (hj x.1 e).1; simp at this; omega⟩
theorem DY.drop {st : St} {B : V} {N : Int} {jl : Option Nat} {cl : List V} {b : Syb} {lab : Nat → Option Nat} {fs : Fs} {pv : List (V × List D)} {al2 : List (Nat × List V)} (hD : DY st B N jl cl b lab fs pv al2) : DY st B N jl cl b lab fs pv [] := hD.gr (Gr.refl st (fun _ => False) (fun _ => True)) (fun x hx => by cases hx)
theorem LR.bv {st : St} {v : V} {n : Nat} {L : List UInt8} {j : Option Nat} (h : LR st 1 v n (ofDs (byteCells L)) j) : BV st v L ∧ (∀ s id off n cap, v = .rsl s id off n cap → off = 0) ∧ foot v = j := by
  have hl : L.length = n := by have := h.1; simpa [ofDs, byteCells] using this
  obtain ⟨h0, ⟨rfl, rfl, rfl⟩ | ⟨j0, cap, tail, rfl, rfl, h1, h2, h3⟩⟩ := h
  · have : L = [] := List.eq_nil_of_length_eq_zero (by omega)
    subst this
    exact ⟨.inl ⟨false, rfl⟩, (fun s id off n cap e => by cases e), rfl⟩
  · subst hl
    refine ⟨.inr ⟨j0, 0, cap, _, rfl, h1, h2, ?_, ?_⟩, (fun s id off n cap e => by simp only [V.rsl.injEq] at e; exact e.2.2.1.symm), rfl⟩
    · rw [List.length_append, ofDs_len, byteCells_len]; omega
    · rw [List.drop_zero]; exact List.take_left' (by rw [ofDs_len, byteCells_len])
section
variable {pr : Prog} (hsy : Sub symFns pr) (hd : Sub refYFns pr) (hr : Sub refSFns pr) (hn : Sub lendFns pr) (hh : Sub syFns pr) (hw : Sub lawYFns pr) (haw : ∀ st, den pr 30 [] st = some (.d (.b true), st)) {st : St}
include hw in
theorem callW_copyRowY (hf : st.floor = 0) {nz : Bool} {L : List UInt8} (hl : L.length ≤ 140737488355328) {Q : V → St → Prop} (hQ : ∀ s v j, LR s 1 v L.length (ofDs (byteCells L)) j → s.floor = 0 → Gr st s (fun _ => False) (fun _ => True) → (∀ r, j = some r → st.heap.length ≤ r) → Q v s) : CallW pr 225 [bsl nz L] st Q := by
  refine .run (fun _ => false) (hw.at 3 rfl) rfl ?_
  rw [start_raw _ rfl]
  refine codeC_of ?_
  simp [F225_spindlelaw0_CopyBytes_row, fillV, reps, ofDs]
  refine appW_LR (cells := []) (n := 0) (j := some st.heap.length) (by simpa using hf) ⟨rfl, .inr ⟨st.heap.length, 0, [], rfl, rfl, Nat.le_refl _, by simp, rfl⟩⟩ (show vwV 1 _ (bsl nz L) = some (L.length, ofDs (byteCells L)) from rfl) (by simp [ofDs, byteCells]) rfl (by omega) (by omega) ?_
  intro s1 v1 j1 h1 g1 n1
  rw [Nat.zero_add, List.nil_append] at h1
  simp [FinW]
  refine hQ s1 v1 j1 h1 (g1.floor.trans (by simpa using hf)) ?_ ?_
  · have := (Gr.push (A := fun r => st.heap.length ≤ r) (P := fun _ => True) (st := st) (.row [])).trans (g1.mono (A' := fun r => st.heap.length ≤ r) (fun r hr e => by
      obtain rfl := Option.some.inj e
      exact Nat.le_refl _) fun _ _ => trivial)
    exact this.mono (fun r hr e => by omega) fun _ h => h
  · intro r hr
    rcases n1 with e | ⟨i, e, hi, _⟩
    · rw [e] at hr
      obtain rfl := Option.some.inj hr
      exact Nat.le_refl _
    · rw [e] at hr
      obtain rfl := Option.some.inj hr
      simp at hi
      omega
include hsy hd hr hn hh hw haw
theorem law_SymtabReads {T : List (Bool × List UInt8)} {u : V} (hu : SlD 1 u (T.map fun x => [D.sl x.2.length x.1 (byteCells x.2)])) (hN : T.length ≤ 1048576) (hel : ∀ x ∈ T, x.2.length ≤ 1048576) {st : St} :
    CallW pr 204 [u] st fun v s => s = st ∧ v = .d (.b true) := by
  obtain ⟨h1, nz, hun⟩ := id hu
  refine .run0 wY (hw.at 1 rfl) (show closeA [u] = some [u] by rw [hun]; rfl) rfl rfl (codeC_of ?_)
  have hlen := hu.len
  rw [List.length_map] at hlen
  simp [F204_spindlelaw10_SymtabReads, wY, haw, ofDs, fillV, lay]
  refine loopW_j wY (fun n e s => ∃ t B N jl cl b lab fs pv, t ≤ T.length ∧ n = T.length - t ∧ e = [(0, u), (3, .ptr 0 0), (4, .ptr 1 0), (5, .d (.i .i64 t))] ∧ DY s B N jl cl b lab fs pv [] ∧ b.fr.length ≤ 2 ∧ b.total ≤ 174764 * t ∧ b.kv.length ≤ 60 * t) ?_ (n := T.length) ?_
  rotate_left
  · obtain ⟨s1, hs1⟩ : ∃ s1, s1 = s0 [.row [.d (.sl 0 false []), .d (.i .i64 0)], .row [.d (.i .i64 0), .d (.b false), .d (.sl 0 false []), .d (.sl 0 false []), .d (.sl 0 false []), .d (.sl 0 false [])]] [] 0 0 := ⟨_, rfl⟩
    have r0 : s1.row 0 = some [.d (.sl 0 false []), .d (.i .i64 0)] := by rw [hs1]; rfl
    have r1 : s1.row 1 = some [.d (.i .i64 0), .d (.b false), .d (.sl 0 false []), .d (.sl 0 false []), .d (.sl 0 false []), .d (.sl 0 false [])] := by rw [hs1]; rfl
    have hf1 : s1.floor = 0 := by rw [hs1]; rfl
    have hlab : ∀ a r, (fun a => if a = 0 then some 1 else none : Nat → Option Nat) a = some r → a = 0 ∧ r = 1 := fun a r h => by
      simp only at h
      split at h
      · exact ⟨by assumption, (Option.some.inj h).symm⟩
      · cases h
    have h0 : Hp 6 s1 1 [.d (.i .i64 0), .d (.b false), .d (.sl 0 false []), .d (.sl 0 false []), .d (.sl 0 false []), .d (.sl 0 false [])] (fun a => if a = 0 then some 1 else none) (fun _ => none) [] [(0, [.d (.sl 0 false []), .d (.i .i64 0)])] := by
      refine ⟨hf1, r1, rfl, rfl, fun a x hx => (by cases hx), ⟨fun a r h => ?_, fun a c r ha hc => ?_⟩, fun x hx => (by cases hx), fun x hx => ?_⟩
      · rw [(hlab a r h).2]; exact row_lt r1
      · rw [(hlab a r ha).1, (hlab c r hc).1]
      · simp only [List.mem_singleton] at hx
        subst hx
        exact ⟨r0, fun a h => by have := (hlab a 0 h).2; omega, fun y hy => by cases hy⟩
    have h1 := (((h0.nil (a := 1) (by omega) (sz := 1)).nil (a := 2) (by omega) (sz := 1)).nil (a := 4) (by omega) (sz := 1)).nil (a := 5) (by omega) (sz := 1)
    rw [← hs1]
    refine ⟨0, .d (.sl 0 false []), 0, none, [], ⟨0, .d (.sl 0 false []), .d (.sl 0 false []), .d (.sl 0 false []), .d (.sl 0 false []), [], [], [], []⟩, _, _, [], Nat.zero_le _, rfl, by simp, ⟨⟨hf1, r0, .inl ⟨rfl, rfl⟩⟩, ⟨h1, ?_, ?_, ?_, ?_, fun i x hx => (by cases hx), fun i x y hx => (by cases hx), fun i x y hx => (by cases hx), ?_, ⟨by simp, by simp⟩, ⟨by simp, by simp⟩⟩, fun r hr => (by cases hr), fun x hx => (by cases hx)⟩, by simp, by simp, by simp⟩
    · rw [updF_ne (by omega), updF_ne (by omega), updF_ne (by omega), updF_eq]; rfl
    · rw [updF_ne (by omega), updF_ne (by omega), updF_eq]; rfl
    · rw [updF_ne (by omega), updF_eq]; rfl
    · rw [updF_eq]; rfl
    · intro a ha
      have ha : 6 ≤ a := by simpa using ha
      rw [upd_ne (by omega), upd_ne (by omega), upd_ne (by omega), upd_ne (by omega), updF_ne (by omega), updF_ne (by omega), updF_ne (by omega), updF_ne (by omega)]
      exact ⟨if_neg (by omega), rfl⟩
  rintro n e s ⟨t, B, N, jl, cl, b, lab, fs, pv, ht, rfl, rfl, hD, hfr, htot, hkv⟩
  rcases Nat.lt_or_ge t T.length with hlt | hge
  rotate_left
  · have : t = T.length := by omega
    subst this
    simp [F204_spindlelaw10_SymtabReads_b0, wY, hlen]
    refine (callW_HoldsT hh hD.sh).mono ?_
    rintro v s' ⟨rfl, rfl⟩
    simp [FinW]
  obtain ⟨x, hx⟩ : ∃ x, T[t]? = some x := ⟨_, List.getElem?_eq_getElem hlt⟩
  have hxl := hel x (List.mem_of_getElem? hx)
  have w1 : IntKind.wrap .i64 ((t : Int) + 1) = t + 1 := wrap_i64 (by omega) (by omega)
  have hia := hu.iaddr (i := (t : Int)) (k := .i64) (by omega) (by simp; omega)
  have hld := fun st => hu.load (st := st) (i := t) (o := 0) (n := 1) (agg := false) (el := [D.sl x.2.length x.1 (byteCells x.2)]) (by simp [hx]) (by omega) (by simp)
  simp [ofDs] at hia hld
  obtain ⟨P, hP⟩ : ∃ P, P = elP 1 u t 0 := ⟨_, rfl⟩
  rw [← hP] at hia hld
  obtain ⟨nz1, L⟩ := x
  simp only at hxl hld
  obtain ⟨tv, htv⟩ : ∃ tv, tv = bsl nz1 L := ⟨_, rfl⟩
  have hld : ∀ st, loadV 1 false st P = some tv := fun st => by rw [htv]; exact hld st
  have htl : lenV tv = some L.length := by rw [htv]; rfl
  have bvT : ∀ s, BV s tv L := fun s => .inl ⟨nz1, htv⟩
  have ofT : ∀ s id off n cap, tv = .rsl s id off n cap → off = 0 := fun s id off n cap e => by rw [htv] at e; cases e
  have ftT : foot tv = none := by rw [htv]; rfl
  simp [F204_spindlelaw10_SymtabReads_b0, wY, hlen, hlt, hia, hld]
  rw [htv]
  refine callW_copyRowY hw hD.sh.hp.fl (by omega) ?_
  rw [← htv]
  intro s1 v j hl1 hf1 g1 hj1
  -- behind the change
  have fin : ∀ (s2 : St) (L' : List UInt8), LR s2 1 v L.length (ofDs (byteCells L')) j → Gr s s2 (fun _ => False) (fun _ => True) →
      ∃ al3, DY s2 B N jl cl b lab fs pv al3 ∧ (∀ x, foot v = some x → ∃ c, (x, c) ∈ al3) ∧ (∀ x ∈ al3, some x.1 = j) := by
    intro s2 L' hl2 g2
    obtain ⟨_, _, hft⟩ := hl2.bv
    cases hjj : j with
    | none => exact ⟨[], hD.gr g2 (fun x hx => by cases hx), (fun x hx => by rw [hft, hjj] at hx; cases hx), (fun x hx => by cases hx)⟩
    | some x =>
      obtain ⟨tail, htail⟩ := hl2.inRow hjj
      exact ⟨[(x, _)], hD.gr g2 (fun y hy => by
        simp only [List.mem_singleton] at hy
        subst hy
        exact ⟨htail, hj1 x hjj⟩), (fun y hy => ⟨_, by rw [hft, hjj] at hy; obtain rfl := Option.some.inj hy; exact List.mem_singleton_self _⟩), (fun y hy => by
        simp only [List.mem_singleton] at hy
        rw [hy])⟩
  -- the four readings
  have four : ∀ (s2 : St) (L' : List UInt8), LR s2 1 v L.length (ofDs (byteCells L')) j → Gr s s2 (fun _ => False) (fun _ => True) →
      CallW pr 203 [tv, .ptr 0 0, .ptr 1 0] s2 fun r s3 => r = .d (.b true) ∧ CallW pr 203 [tv, .ptr 0 0, .ptr 1 0] s3 fun r s4 => r = .d (.b true) ∧ CallW pr 203 [v, .ptr 0 0, .ptr 1 0] s4 fun r s5 => r = .d (.b true) ∧ CallW pr 203 [tv, .ptr 0 0, .ptr 1 0] s5 fun r s6 => r = .d (.b true) ∧ ∃ B N jl cl b' lab fs pv, DY s6 B N jl cl b' lab fs pv [] ∧ b'.fr.length ≤ 2 ∧ b'.total ≤ b.total + 174764 ∧ b'.kv.length ≤ b.kv.length + 60 := by
    intro s2 L' hl2 g2
    obtain ⟨al3, hD2, hft, hsub⟩ := fin s2 L' hl2 g2
    obtain ⟨bv2, of2, fj⟩ := hl2.bv
    have hLl : L'.length = L.length := by have := hl2.1; simpa [ofDs, byteCells] using this
    have alT : ∀ x, foot tv = some x → ∃ c, (x, c) ∈ al3 := fun x hx => by rw [ftT] at hx; cases hx
    have rowv : ∀ {s' : St} {B N jl cl b lab fs pv}, DY s' B N jl cl b lab fs pv al3 → LR s' 1 v L.length (ofDs (byteCells L')) j := fun hD' => hl2.row fun x hx => by
      obtain ⟨c, hc⟩ := hft x (by rw [fj]; exact hx)
      rw [(hD'.sh.hp.al _ (List.mem_cons_of_mem _ (List.mem_append_right _ hc))).1, (hD2.sh.hp.al _ (List.mem_cons_of_mem _ (List.mem_append_right _ hc))).1]
    refine callW_reads hsy hd hr hn hh hw hD2 (bvT _) ofT alT hxl hfr (by omega) (by omega) ?_
    intro s3 B3 N3 jl3 cl3 b3 lab3 fs3 pv3 hD3 hfr3 htot3 hkv3
    refine ⟨rfl, ?_⟩
    refine callW_reads hsy hd hr hn hh hw hD3 (bvT _) ofT alT hxl hfr3 (by omega) (by omega) ?_
    intro s4 B4 N4 jl4 cl4 b4 lab4 fs4 pv4 hD4 hfr4 htot4 hkv4
    refine ⟨rfl, ?_⟩
    refine callW_reads hsy hd hr hn hh hw hD4 (rowv hD4).bv.1 of2 hft (by omega) hfr4 (by omega) (by omega) ?_
    intro s5 B5 N5 jl5 cl5 b5 lab5 fs5 pv5 hD5 hfr5 htot5 hkv5
    refine ⟨rfl, ?_⟩
    refine callW_reads hsy hd hr hn hh hw hD5 (bvT _) ofT alT hxl hfr5 (by omega) (by omega) ?_
    intro s6 B6 N6 jl6 cl6 b6 lab6 fs6 pv6 hD6 hfr6 htot6 hkv6
    exact ⟨rfl, B6, N6, jl6, cl6, b6, lab6, fs6, pv6, hD6.drop, hfr6, by omega, by omega⟩
  have hnv := hl1.len
  by_cases hz : L.length = 0
  · have hzI : ¬ (0 : Int) < L.length := by omega
    have h4 := four s1 L hl1 g1
    simp [wY, hnv, hz, hlen, hlt, hia, hld]
    refine h4.mono ?_
    rintro _ s3 ⟨rfl, h4⟩
    simp [wY, hia, hld]
    refine h4.mono ?_
    rintro _ s4 ⟨rfl, h4⟩
    simp [wY, hia, hld]
    refine h4.mono ?_
    rintro _ s5 ⟨rfl, h4⟩
    simp [wY, hia, hld]
    refine h4.mono ?_
    rintro _ s6 ⟨rfl, B6, N6, jl6, cl6, b6, lab6, fs6, pv6, hD6, hfr6, htot6, hkv6⟩
    simp [wY, w1]
    exact ⟨T.length - (t + 1), by omega, t + 1, by omega, rfl, rfl, B6, N6, jl6, cl6, b6, ⟨lab6, fs6, pv6, hD6⟩, hfr6, by omega, by omega⟩
  · have hzI : (0 : Int) < L.length := by omega
    have hzn : 0 < L.length := by omega
    obtain ⟨k, hk⟩ : ∃ k, k = L.length - 1 := ⟨_, rfl⟩
    have wk : IntKind.wrap .i64 ((L.length : Int) - 1) = (k : Int) := by rw [wrap_i64 (by omega) (by omega)]; omega
    obtain ⟨c0, hb1⟩ : ∃ c0, L[k]? = some c0 := ⟨_, List.getElem?_eq_getElem (by omega)⟩
    obtain ⟨y, hy⟩ : ∃ y : UInt8, bitI .xor .u8 (c0.toNat : Int) 8 = some (.i .u8 (y.toNat : Int)) := by
      obtain ⟨y, hy⟩ := u8_ofB ((BitVec.ofInt (IntKind.bits .u8) (c0.toNat : Int) ^^^ BitVec.ofInt (IntKind.bits .u8) 8).toNat : Int)
      exact ⟨y, by rw [← hy]; rfl⟩
    obtain ⟨j0, c, hj0, a1, a2, a3, a4, a5⟩ := hl1.put1 (k := k) (by omega) y
    have a6 : (c.drop k).take 1 = [V.d (.i .u8 (c0.toNat : Int))] := by
      obtain ⟨tail, ht⟩ := hl1.inRow hj0
      rw [a2] at ht
      obtain rfl := Option.some.inj ht
      have hlb : k < (ofDs (byteCells L)).length := by simp [ofDs, byteCells]; omega
      rw [List.drop_append_of_le_length (by omega), List.take_append_of_le_length (by rw [List.length_drop]; omega), List.drop_eq_getElem_cons hlb]
      simp [ofDs, byteCells]
      have := (List.getElem?_eq_some_iff.1 hb1).2
      rw [this]
    have hset : ∀ cs, s1.setBlk j0 (.row cs) = some (s1.put j0 cs) := fun cs => setBlk_put hf1
    obtain ⟨s2, hs2⟩ : ∃ s2, s2 = s1.put j0 (lay c k [.d (.i .u8 (y.toNat : Int))]) := ⟨_, rfl⟩
    rw [← hs2] at a4 a5
    have g2 : Gr s s2 (fun _ => False) (fun _ => True) := by
      have h1 := (g1.mono (A' := fun r => s.heap.length ≤ r) (fun _ _ e => e.elim) fun _ h => h).trans (a5.mono (A' := fun r => s.heap.length ≤ r) (fun r hr e => hj1 r e) fun _ h => h)
      exact h1.mono (fun r hr e => by omega) fun _ h => h
    have h4 := four s2 _ a4 g2
    simp [wY, hnv, hzI, hzn, hlen, hlt, hia, hld, wk, a1, a2, a3, a6, hy, hset, ← hs2]
    refine h4.mono ?_
    rintro _ s3 ⟨rfl, h4⟩
    simp [wY, hia, hld]
    refine h4.mono ?_
    rintro _ s4 ⟨rfl, h4⟩
    simp [wY, hia, hld]
    refine h4.mono ?_
    rintro _ s5 ⟨rfl, h4⟩
    simp [wY, hia, hld]
    refine h4.mono ?_
    rintro _ s6 ⟨rfl, B6, N6, jl6, cl6, b6, lab6, fs6, pv6, hD6, hfr6, htot6, hkv6⟩
    simp [wY, w1]
    exact ⟨T.length - (t + 1), by omega, t + 1, by omega, rfl, rfl, B6, N6, jl6, cl6, b6, ⟨lab6, fs6, pv6, hD6⟩, hfr6, by omega, by omega⟩
end
end Go.Sh
