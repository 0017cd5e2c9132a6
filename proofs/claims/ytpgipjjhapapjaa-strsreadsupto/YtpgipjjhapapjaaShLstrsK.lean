/- StrsAll, as a law about runs. -/
import Derived.Test.YtpgipjjhapapjaaShLstrsJ
set_option linter.unusedVariables false
set_option linter.unusedSimpArgs false
namespace Go.Sh
@[simp] theorem ptr_cs {a b : Nat} : V.cs (.ptr a b) = [.ptr a b] := rfl
@[simp] theorem ptr_ok1 {a b : Nat} : V.ok1 (.ptr a b) = true := rfl
structure DK where
  d : Nat
  p : Nat
  m : Nat
  tn : Nat
  tp : Nat
  live : Bool
  ns : List Nm
def DK.R (k : DK) : Nat → Prop := DR k.d k.p k.m k.live
def DK.T (k : DK) : Nat → Prop := DT k.tn k.tp k.live k.ns
def DK.In (k : DK) (st : St) : Prop := Dsk st k.d k.p k.m k.tn k.tp k.live k.ns
def updD (D : Nat → Option DK) (a : Nat) (k : DK) : Nat → Option DK := fun c => if c = a then some k else D c
theorem updD_eq {D : Nat → Option DK} {a : Nat} {k : DK} : updD D a k a = some k := by simp [updD]
theorem updD_ne {D : Nat → Option DK} {a c : Nat} {k : DK} (h : c ≠ a) : updD D a k c = D c := by simp [updD, h]
/-- Desks that share nothing. -/
structure Dks (st : St) (D : Nat → Option DK) : Prop where
  fl : st.floor = 0
  tf : st.tfloor = 0
  dsk : ∀ a k, D a = some k → k.In st
  sep : ∀ a b k l, a ≠ b → D a = some k → D b = some l → (∀ i, k.R i → ¬ l.R i) ∧ ∀ t, k.T t → ¬ l.T t
theorem Dks.other {st st' : St} {D : Nat → Option DK} (h : Dks st D) (k : Kp st st' (fun _ => False) (fun _ => False)) : Dks st' D :=
  ⟨k.floor.trans h.fl, k.tfloor.trans h.tf, fun a k' hk => (h.dsk a k' hk).keep k (fun _ _ => id) fun _ _ => id, h.sep⟩
/-- A desk that is new. -/
theorem Dks.add {st st' : St} {D : Nat → Option DK} (h : Dks st D) (k : Kp st st' (fun _ => False) (fun _ => False)) {a : Nat} (ha : D a = none) {x : DK} (hx : x.In st') (hR : ∀ i, x.R i → st.heap.length ≤ i) (hT : ∀ t, x.T t → st.tips.length ≤ t) : Dks st' (updD D a x) := by
  have h' := h.other k
  refine ⟨h'.fl, h'.tf, fun b y hy => ?_, fun b c y z hbc hy hz => ?_⟩
  · by_cases hb : b = a
    · subst hb
      rw [updD_eq] at hy
      obtain rfl := Option.some.inj hy
      exact hx
    · rw [updD_ne hb] at hy
      exact h'.dsk b y hy
  · by_cases hb : b = a
    · subst hb
      rw [updD_eq] at hy
      obtain rfl := Option.some.inj hy
      rw [updD_ne (Ne.symm hbc)] at hz
      refine ⟨fun i hi hj => ?_, fun t hi hj => ?_⟩
      · have := hR i hi
        have := (h.dsk c z hz).rlt hj
        omega
      · have := hT t hi
        have := (h.dsk c z hz).tlt hj
        omega
    · rw [updD_ne hb] at hy
      by_cases hc : c = a
      · subst hc
        rw [updD_eq] at hz
        obtain rfl := Option.some.inj hz
        refine ⟨fun i hi hj => ?_, fun t hi hj => ?_⟩
        · have := hR i hj
          have := (h.dsk b y hy).rlt hi
          omega
        · have := hT t hj
          have := (h.dsk b y hy).tlt hi
          omega
      · rw [updD_ne hc] at hz
        exact h.sep b c y z hbc hy hz
/-- A desk has acted. -/
theorem Dks.acted {st st' : St} {D : Nat → Option DK} (h : Dks st D) {a : Nat} {k : DK} (ha : D a = some k) {tn' tp' : Nat} {ns' : List Nm} (hA : ActP st st' k.d k.p k.m k.tn k.tp tn' tp' k.live k.ns ns') : Dks st' (updD D a ⟨k.d, k.p, k.m, tn', tp', k.live, ns'⟩) := by
  have key : ∀ b y, b ≠ a → D b = some y → y.In st' ∧ (∀ i, y.R i → ¬ k.R i) ∧ ∀ t, y.T t → ¬ DT tn' tp' k.live ns' t := by
    intro b y hb hy
    obtain ⟨s1, s2⟩ := h.sep b a y k hb hy ha
    refine ⟨(h.dsk b y hy).keep hA.kp s1 s2, s1, fun t ht ht' => ?_⟩
    rcases hA.tok t ht' with e | e
    · exact s2 t ht e
    · have := (h.dsk b y hy).tlt ht
      omega
  refine ⟨hA.dsk.fl, hA.dsk.tf, fun b y hy => ?_, fun b c y z hbc hy hz => ?_⟩
  · by_cases hb : b = a
    · subst hb
      rw [updD_eq] at hy
      obtain rfl := Option.some.inj hy
      exact hA.dsk
    · rw [updD_ne hb] at hy
      exact (key b y hb hy).1
  · by_cases hb : b = a
    · subst hb
      rw [updD_eq] at hy
      obtain rfl := Option.some.inj hy
      rw [updD_ne (Ne.symm hbc)] at hz
      obtain ⟨_, k1, k2⟩ := key c z (Ne.symm hbc) hz
      exact ⟨fun i hi hj => k1 i hj hi, fun t hi hj => k2 t hj hi⟩
    · rw [updD_ne hb] at hy
      by_cases hc : c = a
      · subst hc
        rw [updD_eq] at hz
        obtain rfl := Option.some.inj hz
        exact (key b y hb hy).2
      · rw [updD_ne hc] at hz
        exact h.sep b c y z hbc hy hz
def actC (a : Int × Int × List UInt8 × Int) : List D := [.i .i64 a.1, .i .i64 a.2.1, .s a.2.2.1, .i .i64 a.2.2.2]
section
variable {pr : Prog} (hp : Sub strsFns pr) (hq : SubP strsPrims pr) (hl : Sub law8Fns pr) (hr : Sub ref8Fns pr) (ha : Sub allFns pr) {st : St}
include hp hq hr ha
theorem den_open {nz : Bool} {L : List UInt8} (hfl : st.floor = 0) (htf : st.tfloor = 0) (hL : L.length ≤ 1073741824) : ∃ (st' : St) (k : DK), den pr 155 [bsl nz L] st = some (.tup [.ptr k.d 0, .d (.b true)], st') ∧ k.In st' ∧ Kp st st' (fun _ => False) (fun _ => False) ∧ (∀ i, k.R i → st.heap.length ≤ i) ∧ (∀ t, k.T t → st.tips.length ≤ t) ∧ endAt 1 k.ns ≤ L.length + 1 := by
  obtain ⟨Q, hQ⟩ : ∃ Q : V → St → Prop, ∀ v s', Q v s' ↔ ∃ k : DK, v = .tup [.ptr k.d 0, .d (.b true)] ∧ k.In s' ∧ Kp st s' (fun _ => False) (fun _ => False) ∧ (∀ i, k.R i → st.heap.length ≤ i) ∧ (∀ t, k.T t → st.tips.length ≤ t) ∧ endAt 1 k.ns ≤ L.length + 1 := ⟨_, fun _ _ => Iff.rfl⟩
  suffices hh : Ans Q (den pr 155 [bsl nz L] st) by
    obtain ⟨v, s', e1, e2⟩ := hh.ex
    obtain ⟨k, rfl, h2⟩ := (hQ _ _).1 e2
    exact ⟨s', k, e1, h2⟩
  rw [den_fn (ha.at 2 rfl) rfl rfl, start_raw _ rfl]
  by_cases h0 : L = []
  · subst h0
    obtain ⟨s1, n1, n2, n3⟩ := den_New hp hfl htf
    have hk : Q (.tup [.ptr s1.heap.length 0, .d (.b true)]) (s1.push (.row [.ptr (st.heap.length + 1) 0, .d (.sl 0 false [])])) := by
      have kk : Kp s1 (s1.push (.row [.ptr (st.heap.length + 1) 0, .d (.sl 0 false [])])) (fun _ => False) (fun _ => False) := .push _
      have hlt := n2.plt
      refine (hQ _ _).2 ⟨⟨s1.heap.length, st.heap.length + 1, st.heap.length, 0, 0, true, []⟩, rfl, ⟨kk.floor.trans n2.fl, kk.tfloor.trans n2.tf, ⟨false, row_push_new rfl, fun _ => rfl⟩, fun _ => ⟨n2.keep kk id id fun _ => ⟨id, id⟩, by show s1.heap.length ≠ st.heap.length + 1; omega⟩⟩, n3.trans kk, ?_, fun t ht => absurd rfl ht.2.1, by simp [endAt]⟩
      intro i hi
      rcases hi with e | ⟨_, e | e⟩
      · have e : i = s1.heap.length := e
        omega
      · have e : i = st.heap.length + 1 := e
        omega
      · have e : i = st.heap.length := e
        omega
    have hlen : lenV (bsl nz []) = some 0 := rfl
    simp [F155_spindlelaw8_open, n1, eqV, fillV, lay, ofDs]
    exact hk
  have hcp := fun st => den_copyB8 hr (st := st) (nz := nz) (L := L) (by omega)
  have hrr := fun st => den_refRead hr (st := st) (nz := true) (L := L) (by omega)
  have hnum := fun st x => den_num8 hr (st := st) x
  have hle : ¬ ((L.length : Int) = 0) := by
    have := List.length_pos_iff.2 h0
    omega
  have hset0 : ∀ T', (st.push (.row [.d (.sl 0 false [])])).setBlk st.heap.length (.row [T']) = some (st.push (.row [T'])) := by
    intro T'
    rw [setBlk_put (by simpa using hfl)]
    simp [St.put, St.push]
  cases hrb : readB L with
  | mk o q =>
  cases o with
  | none =>
    have hrf : refRd L = .tup [.agg [.d (.sl 0 false [])], .d (.i .i64 (q : Nat)), .d (.i .i64 80)] := by unfold refRd; rw [hrb]; rfl
    obtain ⟨v, s2, r1, r2, r3⟩ := den_Read hp hq (st := st.push (.row [.d (.sl 0 false [])])) (v := bsl nz L) (L := L) (by simpa using hfl) (by simpa using htf) (.inl ⟨nz, rfl⟩) (by omega)
    rw [hrb] at r3
    simp only at r3
    subst r3
    have hT : s2.row st.heap.length = some [.d (.sl 0 false [])] := (row_of_heap (r2.heap st.heap.length (by simp) id)).trans (row_push_new rfl)
    have hk : Q (.tup [.ptr s2.heap.length 0, .d (.b true)]) (s2.push (.row [.d .np, .d (.sl 0 false [])])) := by
      have kk : Kp s2 (s2.push (.row [.d .np, .d (.sl 0 false [])])) (fun _ => False) (fun _ => False) := .push _
      have k2 : Kp st (s2.push (.row [.d .np, .d (.sl 0 false [])])) (fun _ => False) (fun _ => False) := (Kp.push _).trans (r2.trans kk)
      have h1 := r2.hlen
      simp at h1
      refine (hQ _ _).2 ⟨⟨s2.heap.length, 0, 0, 0, 0, false, []⟩, rfl, ⟨k2.floor.trans hfl, k2.tfloor.trans htf, ⟨false, row_push_new rfl, fun _ => rfl⟩, nofun⟩, k2, ?_, fun t ht => absurd rfl ht.2.1, by simp [endAt]⟩
      intro i hi
      rcases hi with e | ⟨e, _⟩
      · have e : i = s2.heap.length := e
        omega
      · cases e
    simp [F155_spindlelaw8_open, eqV, fillV, lay, ofDs, hle, hcp, hrr, hrf, hset0, r1, hT, hnum, h0]
    exact hk
  | some ns =>
    have hrf : refRd L = .tup [.agg [.d (.sl ns.length (decide (ns ≠ [])) (ns.map .s))], .d (.i .i64 0), .d (.i .i64 0)] := by unfold refRd; rw [hrb]; rfl
    obtain ⟨T', hT'⟩ : ∃ T', T' = V.d (.sl ns.length (decide (ns ≠ [])) (ns.map .s)) := ⟨_, rfl⟩
    rw [← hT'] at hrf
    have hTo : T'.ok1 = true ∧ T'.cs = [T'] := by rw [hT']; exact ⟨rfl, rfl⟩
    obtain ⟨v, s2, r1, r2, r3⟩ := den_Read hp hq (st := st.push (.row [T'])) (v := bsl nz L) (L := L) (by simpa using hfl) (by simpa using htf) (.inl ⟨nz, rfl⟩) (by omega)
    rw [hrb] at r3
    simp only at r3
    obtain ⟨p, m, tn, tp, rfl, ht, hp1, hm1, htk⟩ := r3
    have hT : s2.row st.heap.length = some [T'] := (row_of_heap (r2.heap st.heap.length (by simp) id)).trans (row_push_new rfl)
    simp at hp1 hm1
    have hk : Q (.tup [.ptr s2.heap.length 0, .d (.b true)]) (s2.push (.row [.ptr p 0, T'])) := by
      have kk : Kp s2 (s2.push (.row [.ptr p 0, T'])) (fun _ => False) (fun _ => False) := .push _
      have k2 : Kp st (s2.push (.row [.ptr p 0, T'])) (fun _ => False) (fun _ => False) := (Kp.push _).trans (r2.trans kk)
      have h1 := r2.hlen
      simp at h1
      have hpl := ht.plt
      obtain ⟨hb, _, _, _⟩ := readB_some hrb
      refine (hQ _ _).2 ⟨⟨s2.heap.length, p, m, tn, tp, true, ns⟩, rfl, ⟨k2.floor.trans hfl, k2.tfloor.trans htf, ⟨decide (ns ≠ []), ?_, by simp⟩, fun _ => ⟨ht.keep kk id id fun _ => ⟨id, id⟩, by show s2.heap.length ≠ p; omega⟩⟩, k2, ?_, ?_, ?_⟩
      · show (s2.push (.row [.ptr p 0, T'])).row s2.heap.length = _
        rw [row_push_new rfl, hT']
        rfl
      · intro i hi
        rcases hi with e | ⟨_, e | e⟩
        · have e : i = s2.heap.length := e
          omega
        · have e : i = p := e
          omega
        · have e : i = m := e
          omega
      · rintro t ⟨_, hne, e⟩
        obtain ⟨q1, q2⟩ := htk hne
        simp at q1 q2
        rcases e with e | e
        · have e : t = tn := e
          omega
        · have e : t = tp := e
          omega
      · show endAt 1 ns ≤ _
        rw [hb, tabB_len]
        omega
    simp [F155_spindlelaw8_open, eqV, fillV, lay, ofDs, hle, hcp, hrr, hrf, hset0, r1, hT, hnum, h0, hTo]
    exact hk
omit hr in
theorem den_nils : den pr 156 [] st = some (.d (.b true), st) := by
  obtain ⟨v, s2, r1, r2, r3⟩ := den_Read hp hq (st := s0 [] [] 0 0) (v := bsl false []) (L := []) rfl rfl (.inl ⟨false, rfl⟩) (by simp)
  have hrb : readB [] = (none, 0) := rfl
  rw [hrb] at r3
  simp only at r3
  subst r3
  have hb : bsl false [] = .d (.sl 0 false []) := rfl
  rw [hb] at r1
  simp at r1
  refine den_shut (ha.at 3 rfl) rfl rfl rfl ?_
  simp [F156_spindlelaw8_nils, r1, eqV, ofDs, fillV]
  generalize hL : cden pr (.loop _ _ _) _ _ = o
  have hrow : (s2.push (.row [.d .np, .d (.sl 0 false [])])).row s2.heap.length = some [.d .np, .d (.sl 0 false [])] := row_push_new rfl
  have key : ∃ r, o = some r ∧ ∃ e s, r = (.exit 0, e, s) := by
    rw [← hL]
    refine loop_n 4 (fun i => [(4, .ptr s2.heap.length 0), (5, .d (.i .i64 ((1 + i : Nat) : Int)))]) (fun _ => s2.push (.row [.d .np, .d (.sl 0 false [])])) ?_ (by simp) rfl
    intro i hi
    have hn := den_nothing hp ha (st := s2.push (.row [.d .np, .d (.sl 0 false [])])) hrow 0 ((1 + i : Nat) : Int) [97] 0
    simp [actV] at hn
    have w1 : IntKind.wrap .i64 (1 + (i : Int) + 1) = 1 + ((i : Int) + 1) := by rw [wrap_i64 (by omega) (by omega)]; omega
    rcases Nat.lt_or_ge i 4 with h | h
    · have h1 : 1 + (i : Int) ≤ 4 := by omega
      simp [F156_spindlelaw8_nils_b0, h, h1, fillV, lay, ofDs, hn, w1]
    · have h1 : ¬ 1 + (i : Int) ≤ 4 := by omega
      simp [F156_spindlelaw8_nils_b0, h1]
  obtain ⟨r, rfl, e, s, rfl⟩ := key
  simp
include hl
theorem law_StrsAll {nz1 nz2 nz : Bool} {L1 L2 : List UInt8} {as : List (Int × Int × List UInt8 × Int)} (h1 : L1.length ≤ 2097152) (h2 : L2.length ≤ 2097152) (hn : as.length ≤ 2097152) (has : ∀ a ∈ as, a.2.2.1.length ≤ 140737488351232) : ∃ st', den pr 158 [bsl nz1 L1, bsl nz2 L2, dsl actC nz as] st0 = some (.d (.b true), st') := by
  have hd := dsl_d (c := actC) (sz := 4) (fun _ => rfl) nz as
  suffices hh : Ans (fun v _ => v = .d (.b true)) (den pr 158 [bsl nz1 L1, bsl nz2 L2, dsl actC nz as] st0) by
    obtain ⟨v, s, e1, rfl⟩ := hh.ex
    exact ⟨s, e1⟩
  rw [den_fn (ha.at 4 rfl) rfl rfl, start_raw _ rfl]
  have D0 : Dks st0 (fun _ => none) := ⟨rfl, rfl, nofun, nofun⟩
  obtain ⟨s1, kx, x1, x2, x3, x4, x5, x6⟩ := den_open hp hq hr ha (st := st0) (nz := nz1) (L := L1) rfl rfl (by omega)
  have D1 := D0.add x3 (a := 0) rfl x2 x4 x5
  obtain ⟨s2, ky, y1, y2, y3, y4, y5, y6⟩ := den_open hp hq hr ha (st := s1) (nz := nz2) (L := L2) D1.fl D1.tf (by omega)
  have D2 := D1.add y3 (a := 1) (by simp [updD]) y2 y4 y5
  have hnil := fun st => den_nils hp hq ha (st := st)
  have haw := fun st => den_awake8 hp hq hl (st := st)
  simp [F158_spindlelaw8_StrsAll, x1, y1, hnil]
  generalize hLo : cden pr (.loop [0, 2, 7, 9, 11] _ _) _ _ = o
  obtain ⟨J2, hJ2⟩ : ∃ J2 : Out → Prop, ∀ r, J2 r ↔ ∃ e s D dx dy, r = (.exit 0, e, s) ∧ e.get 0 = some (bsl nz1 L1) ∧ e.get 7 = some (.ptr kx.d 0) ∧ e.get 9 = some (.ptr ky.d 0) ∧ Dks s D ∧ D 0 = some dx ∧ D 1 = some dy ∧ D 2 = none ∧ dx.d = kx.d ∧ dy.d = ky.d ∧ endAt 1 dx.ns ≤ 536870912 ∧ endAt 1 dy.ns ≤ 536870912 := ⟨_, fun _ => Iff.rfl⟩
  have key : ∃ r, o = some r ∧ J2 r := by
    rw [← hLo]
    obtain ⟨J, hJ⟩ : ∃ J : Nat → Env → St → Prop, ∀ n e s, J n e s ↔ ∃ i D dx dy, i ≤ as.length ∧ n = as.length - i ∧ e = [(0, bsl nz1 L1), (2, dsl actC nz as), (7, .ptr kx.d 0), (9, .ptr ky.d 0), (11, .d (.i .i64 (i : Nat)))] ∧ Dks s D ∧ D 0 = some dx ∧ D 1 = some dy ∧ D 2 = none ∧ dx.d = kx.d ∧ dy.d = ky.d ∧ endAt 1 dx.ns ≤ 2097153 + 65 * i ∧ endAt 1 dy.ns ≤ 2097153 + 65 * i := ⟨_, fun _ _ _ => Iff.rfl⟩
    refine loop_j J ?_ (n := as.length) ((hJ _ _ _).2 ⟨0, _, kx, ky, Nat.zero_le _, rfl, by simp, D2, by simp [updD], by simp [updD], by simp [updD], rfl, rfl, by omega, by omega⟩)
    intro n e s h
    obtain ⟨i, D, dx, dy, hi, rfl, rfl, hD, hx, hy, hz, hxd, hyd, hxs, hys⟩ := (hJ _ _ _).1 h
    clear h
    rcases Nat.lt_or_ge i as.length with hlt | hge
    rotate_left
    · have : i = as.length := by omega
      subst this
      simp [F158_spindlelaw8_StrsAll_b0]
      exact (hJ2 _).2 ⟨_, _, D, dx, dy, rfl, by simp, by simp, by simp, hD, hx, hy, hz, hxd, hyd, by omega, by omega⟩
    obtain ⟨a, hai⟩ : ∃ a, as[i]? = some a := ⟨_, List.getElem?_eq_getElem hlt⟩
    have hal := has a (List.mem_of_getElem? hai)
    have hia := hd.iaddr (i := (i : Int)) (k := .i64) (by omega) (by simpa using hlt)
    have hfa := hd.faddr (i := i) (o := 0) (off := 0)
    have hld0 := fun st => hd.load (st := st) (i := i) (o := 0) (n := 1) (agg := false) (el := actC a) (by simp [hai]) (by omega) (by omega)
    have hld := fun st => hd.load (st := st) (i := i) (o := 0) (n := 4) (agg := true) (el := actC a) (by simp [hai]) (by omega) (by omega)
    obtain ⟨w, kk, sn, pl⟩ := a
    simp [mkV, ofDs, actC] at hia hld0 hld hfa
    have w1 : IntKind.wrap .i64 ((i : Int) + 1) = i + 1 := wrap_i64 (by omega) (by omega)
    obtain ⟨b, hb⟩ : ∃ b, bitI .and .i64 w 1 = some (.i .i64 b) := ⟨_, rfl⟩
    -- the act of one of the desks
    have fin : ∀ (c : Nat) (dk : DK), D c = some dk → (c = 0 ∨ c = 1) → endAt 1 dk.ns ≤ 2097153 + 65 * i → ∃ st' D' dx' dy', (∃ v1 v2, den pr 157 [.ptr dk.d 0, actV w kk sn pl] s = some (.tup [.d (.b true), v1, v2], st')) ∧ Dks st' D' ∧ D' 0 = some dx' ∧ D' 1 = some dy' ∧ D' 2 = none ∧ dx'.d = kx.d ∧ dy'.d = ky.d ∧ endAt 1 dx'.ns ≤ 2097153 + 65 * (i + 1) ∧ endAt 1 dy'.ns ≤ 2097153 + 65 * (i + 1) := by
      intro c dk hc hc01 hsm
      obtain ⟨v1, v2, st', tn', tp', ns', q1, q2⟩ := den_act hp hq hl hr ha (hD.dsk c dk hc) (by omega) w kk hal pl
      have hD' := hD.acted hc q2
      have hsm' := q2.small
      rcases hc01 with rfl | rfl
      · rw [hx] at hc
        obtain rfl := Option.some.inj hc
        exact ⟨st', _, _, dy, ⟨v1, v2, q1⟩, hD', updD_eq, by rw [updD_ne (by omega)]; exact hy, by rw [updD_ne (by omega)]; exact hz, hxd, hyd, by show endAt 1 ns' ≤ _; omega, by omega⟩
      · rw [hy] at hc
        obtain rfl := Option.some.inj hc
        exact ⟨st', _, dx, _, ⟨v1, v2, q1⟩, hD', by rw [updD_ne (by omega)]; exact hx, updD_eq, by rw [updD_ne (by omega)]; exact hz, hxd, hyd, by omega, by show endAt 1 ns' ≤ _; omega⟩
    by_cases hb1 : b = 1
    · obtain ⟨st', D', dx', dy', ⟨v1, v2, q1⟩, q2, q3, q4, q5, q6, q7, q8, q9⟩ := fin 1 dy hy (.inr rfl) hys
      rw [hyd] at q1
      simp [actV] at q1
      simp [F158_spindlelaw8_StrsAll_b0, hlt, hia, hfa, hld0, hld, hb, hb1, q1, w1]
      exact ⟨as.length - (i + 1), by omega, (hJ _ _ _).2 ⟨i + 1, D', dx', dy', by omega, rfl, by simp, q2, q3, q4, q5, q6, q7, q8, q9⟩⟩
    · obtain ⟨st', D', dx', dy', ⟨v1, v2, q1⟩, q2, q3, q4, q5, q6, q7, q8, q9⟩ := fin 0 dx hx (.inl rfl) hxs
      rw [hxd] at q1
      simp [actV] at q1
      simp [F158_spindlelaw8_StrsAll_b0, hlt, hia, hfa, hld0, hld, hb, hb1, q1, w1]
      exact ⟨as.length - (i + 1), by omega, (hJ _ _ _).2 ⟨i + 1, D', dx', dy', by omega, rfl, by simp, q2, q3, q4, q5, q6, q7, q8, q9⟩⟩
  obtain ⟨r, rfl, key⟩ := key
  obtain ⟨e, s, D, dx, dy, rfl, e0, e7, e9, hD, hx, hy, hz, hxd, hyd, hxs, hys⟩ := (hJ2 _).1 key
  obtain ⟨s3, kz, z1, z2, z3, z4, z5, z6⟩ := den_open hp hq hr ha (st := s) (nz := nz1) (L := L1) hD.fl hD.tf (by omega)
  have D3 := hD.add z3 (a := 2) hz z2 z4 z5
  obtain ⟨A, hA⟩ : ∃ A : List (Int × Int × List UInt8 × Int), A = [(0, 1, [116, 104, 105, 114, 100], 0), (0, 3, [], 0), (0, 4, [], 0)] := ⟨_, rfl⟩
  have hdA := dsl_d (c := actC) (sz := 4) (fun _ => rfl) true A
  have hAv : dsl actC true A = .d (.sl 3 true [.i .i64 0, .i .i64 1, .s [116, 104, 105, 114, 100], .i .i64 0, .i .i64 0, .i .i64 3, .s [], .i .i64 0, .i .i64 0, .i .i64 4, .s [], .i .i64 0]) := by rw [hA]; rfl
  have hAl : A.length = 3 := by rw [hA]; rfl
  simp [e0, e7, e9, z1, fillV, lay, reps, ofDs]
  rw [← hAv]
  generalize hLo2 : cden pr (.loop _ _ _) _ _ = o
  have key2 : ∃ r, o = some r ∧ ∃ e s, r = (.exit 2, e, s) := by
    rw [← hLo2]
    obtain ⟨J2, hJ2⟩ : ∃ J2 : Out → Prop, ∀ r, J2 r ↔ ∃ e s, r = (.exit 2, e, s) := ⟨_, fun _ => Iff.rfl⟩
    suffices hs : ∃ r, cden pr (.loop [7, 9, 16, 17, 18] false F158_spindlelaw8_StrsAll_b1) [(7, .ptr kx.d 0), (9, .ptr ky.d 0), (16, .ptr kz.d 0), (17, dsl actC true A), (18, .d (.i .i64 0))] s3 = some r ∧ J2 r by
      obtain ⟨r, q1, q2⟩ := hs
      exact ⟨r, q1, (hJ2 r).1 q2⟩
    obtain ⟨J, hJ⟩ : ∃ J : Nat → Env → St → Prop, ∀ n e s, J n e s ↔ ∃ i D dx dy dz, i ≤ 3 ∧ n = 3 - i ∧ e = [(7, .ptr kx.d 0), (9, .ptr ky.d 0), (16, .ptr kz.d 0), (17, dsl actC true A), (18, .d (.i .i64 (i : Nat)))] ∧ Dks s D ∧ D 0 = some dx ∧ D 1 = some dy ∧ D 2 = some dz ∧ dx.d = kx.d ∧ dy.d = ky.d ∧ dz.d = kz.d ∧ endAt 1 dx.ns ≤ 536870912 + 65 * i ∧ endAt 1 dy.ns ≤ 536870912 + 65 * i ∧ endAt 1 dz.ns ≤ 536870912 + 65 * i := ⟨_, fun _ _ _ => Iff.rfl⟩
    refine loop_j J ?_ (n := 3) ((hJ _ _ _).2 ⟨0, _, dx, dy, kz, Nat.zero_le _, rfl, by simp, D3, by simp [updD, hx], by simp [updD, hy], by simp [updD], hxd, hyd, rfl, by omega, by omega, by omega⟩)
    intro n e s h
    obtain ⟨i, D, dx, dy, dz, hi, rfl, rfl, hD, hx, hy, hz, hxd, hyd, hzd, hxs, hys, hzs⟩ := (hJ _ _ _).1 h
    clear h
    rcases Nat.lt_or_ge i 3 with hlt | hge
    rotate_left
    · have : i = 3 := by omega
      subst this
      simp [F158_spindlelaw8_StrsAll_b1, hAl]
      exact (hJ2 _).2 ⟨_, _, rfl⟩
    have get : ∀ j : Nat, j < 3 → ∃ p k sn, sn.length ≤ 140737488351232 ∧ iaddrV 4 (dsl actC true A) (.d (.i .i64 (j : Int))) = some p ∧ ∀ st, loadV 4 true st p = some (actV 0 k sn 0) := by
      intro j hj
      obtain ⟨a, hai⟩ : ∃ a, A[j]? = some a := ⟨_, List.getElem?_eq_getElem (by omega)⟩
      have hia := hdA.iaddr (i := (j : Int)) (k := .i64) (by omega) (by simp; omega)
      have hld := fun st => hdA.load (st := st) (i := j) (o := 0) (n := 4) (agg := true) (el := actC a) (by simp [hai]) (by omega) (by omega)
      have hm := List.mem_of_getElem? hai
      rw [hA] at hm
      simp only [List.mem_cons, List.not_mem_nil, or_false] at hm
      rcases hm with rfl | rfl | rfl
      · exact ⟨_, 1, [116, 104, 105, 114, 100], by simp, hia, fun st => by simpa [mkV, ofDs, actC, actV] using hld st⟩
      · exact ⟨_, 3, [], by simp, hia, fun st => by simpa [mkV, ofDs, actC, actV] using hld st⟩
      · exact ⟨_, 4, [], by simp, hia, fun st => by simpa [mkV, ofDs, actC, actV] using hld st⟩
    obtain ⟨p1, k1, sn1, l1, a1, a2⟩ := get i hlt
    obtain ⟨p2, k2, sn2, l2, a3, a4⟩ := get (2 - i) (by omega)
    have w1 : IntKind.wrap .i64 ((i : Int) + 1) = i + 1 := wrap_i64 (by omega) (by omega)
    have w2 : IntKind.wrap .i64 (2 - (i : Int)) = ((2 - i : Nat) : Int) := by rw [wrap_i64 (by omega) (by omega)]; omega
    have hlt3 : (i : Int) < 3 := by omega
    obtain ⟨v1, v2, t1, tn1, tp1, ns1, q1, q2⟩ := den_act hp hq hl hr ha (hD.dsk 2 dz hz) (by omega) 0 k1 l1 0
    have E1 := hD.acted hz q2
    have m1 := q2.small
    rw [hzd] at q1
    have hx1 : updD D 2 ⟨dz.d, dz.p, dz.m, tn1, tp1, dz.live, ns1⟩ 0 = some dx := by rw [updD_ne (by omega)]; exact hx
    obtain ⟨v3, v4, t2, tn2, tp2, ns2, q3, q4⟩ := den_act hp hq hl hr ha (E1.dsk 0 dx hx1) (by omega) 0 k2 l2 0
    have E2 := E1.acted hx1 q4
    have m2 := q4.small
    rw [hxd] at q3
    have hy2 : updD (updD D 2 ⟨dz.d, dz.p, dz.m, tn1, tp1, dz.live, ns1⟩) 0 ⟨dx.d, dx.p, dx.m, tn2, tp2, dx.live, ns2⟩ 1 = some dy := by rw [updD_ne (by omega), updD_ne (by omega)]; exact hy
    obtain ⟨v5, v6, t3, tn3, tp3, ns3, q5, q6⟩ := den_act hp hq hl hr ha (E2.dsk 1 dy hy2) (by omega) 0 k2 l2 0
    have E3 := E2.acted hy2 q6
    have m3 := q6.small
    rw [hyd] at q5
    simp [F158_spindlelaw8_StrsAll_b1, hAl, hlt, hlt3, a1, a2, a3, a4, q1, q3, q5, w1, w2]
    exact ⟨3 - (i + 1), by omega, (hJ _ _ _).2 ⟨i + 1, _, ⟨dx.d, dx.p, dx.m, tn2, tp2, dx.live, ns2⟩, ⟨dy.d, dy.p, dy.m, tn3, tp3, dy.live, ns3⟩, ⟨dz.d, dz.p, dz.m, tn1, tp1, dz.live, ns1⟩, by omega, rfl, by simp, E3, by rw [updD_ne (by omega), updD_eq], updD_eq, by rw [updD_ne (by omega), updD_ne (by omega), updD_eq], hxd, hyd, hzd, by show endAt 1 ns2 ≤ _; omega, by show endAt 1 ns3 ≤ _; omega, by show endAt 1 ns1 ≤ _; omega⟩⟩
  obtain ⟨r, rfl, e', s', rfl⟩ := key2
  simp [haw]
end
end Go.Sh
