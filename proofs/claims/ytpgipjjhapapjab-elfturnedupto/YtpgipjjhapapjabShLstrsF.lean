/- StrsBack, as a law about runs. -/
import Derived.Test.YtpgipjjhapapjabShLstrs1
import Derived.Test.YtpgipjjhapapjabShFlaw8
import Derived.Test.YtpgipjjhapapjabShFlaw0
set_option linter.unusedVariables false
set_option linter.unusedSimpArgs false
namespace Go.Sh
def law8Fns : List (Nat × SFn) := [(145, F145_spindlelaw8_awake), (138, F138_spindlelaw8_few), (141, F141_spindlelaw8_StrsBack), (73, F73_spindlelaw0_SameBytes)]
def nmC (s : Nm) : List D := [.s s]
def few (acc : Nat) : List Nm → Bool
  | [] => true
  | s :: r => if 4 * (acc + s.length + 2) > 2147483647 then false else few (acc + s.length + 2) r
theorem few_end {acc a : Nat} {ns : List Nm} (h : few acc ns = true) (ha : a ≤ acc + 1) (h0 : acc ≤ 536870911) : endAt a ns ≤ 536870912 := by
  induction ns generalizing acc a with
  | nil => simp only [endAt]; omega
  | cons s r ih =>
    simp only [few] at h
    split at h
    · cases h
    · exact ih h (by omega) (by omega)
theorem tabB_last {ns : List Nm} : (tabB ns)[endAt 1 ns - 1]? = some 0 := by
  rcases List.eq_nil_or_concat ns with rfl | ⟨r, s, rfl⟩
  · rfl
  · rw [List.concat_eq_append, tabB_snoc, endAt_snoc]
    have h1 : (tabB r).length = endAt 1 r := tabB_len
    rw [List.getElem?_append_right (by omega), List.getElem?_append_right (by omega)]
    rw [show endAt 1 r + s.length + 1 - 1 - (tabB r).length - s.length = 0 by omega]
    rfl
/-- A name stands in the bytes at its place. -/
theorem tabB_name {ns : List Nm} {i : Nat} {s : Nm} (h : ns[i]? = some s) : ∃ q, q = endAt 1 (ns.take i) ∧ ((tabB ns).take (q + s.length)).drop q = s ∧ (tabB ns)[q + s.length]? = some 0 ∧ (tabB ns)[q - 1]? = some 0 ∧ 1 ≤ q ∧ q + s.length < (tabB ns).length := by
  have hi := (List.getElem?_eq_some_iff.1 h).1
  refine ⟨_, rfl, ?_⟩
  obtain ⟨q, hq⟩ : ∃ q, q = endAt 1 (ns.take i) := ⟨_, rfl⟩
  rw [← hq]
  have hd := tabB_drop (ns := ns) (i := i) (by omega)
  rw [← hq, List.drop_eq_getElem_cons hi, (List.getElem?_eq_some_iff.1 h).2] at hd
  have he : (((s :: ns.drop (i + 1)).map (· ++ [(0 : UInt8)])).flatten) = s ++ 0 :: ((ns.drop (i + 1)).map (· ++ [0])).flatten := by simp
  rw [he] at hd
  have hge := endAt_ge (a := 1) (ns := ns.take i)
  have hlen : ((tabB ns).drop q).length = (s ++ 0 :: ((ns.drop (i + 1)).map (· ++ [(0 : UInt8)])).flatten).length := by rw [hd]
  rw [List.length_drop, List.length_append, List.length_cons] at hlen
  refine ⟨?_, ?_, ?_, by omega, by omega⟩
  · rw [List.drop_take, hd, Nat.add_sub_cancel_left, List.take_left' rfl]
  · have := congrArg (fun l => l[s.length]?) hd
    simp only [List.getElem?_drop] at this
    rw [this, List.getElem?_append_right (Nat.le_refl _), Nat.sub_self]
    rfl
  · have h1 : tabB ns = tabB (ns.take i) ++ ((ns.drop i).map (· ++ [0])).flatten := by
      unfold tabB
      rw [List.cons_append, ← List.flatten_append, ← List.map_append, List.take_append_drop]
    rw [h1, List.getElem?_append_left (by rw [tabB_len, ← hq]; omega), hq]
    exact tabB_last
section
variable {pr : Prog} (hp : Sub strsFns pr) (hq : SubP strsPrims pr) (hl : Sub law8Fns pr) {st : St}
include hl
theorem den_sameB8 {nz nz' : Bool} {L L' : List UInt8} : den pr 73 [bsl nz L, bsl nz' L'] st = some (.d (.b (decide (L = L'))), st) := by
  refine den_shut (hl.at 3 rfl) rfl rfl (by simp; rfl) ?_
  by_cases h : L = L' <;> simp [F73_spindlelaw0_SameBytes, h]
theorem den_few {nz : Bool} {ns : List Nm} (hs : ∀ s ∈ ns, s.length ≤ 140737488351232) (hn : ns.length ≤ 140737488351232) : den pr 138 [dsl nmC nz ns] st = some (.d (.b (few 0 ns)), st) := by
  have hd := dsl_d (c := nmC) (sz := 1) (fun _ => rfl) nz ns
  refine den_shut (hl.at 1 rfl) rfl rfl (by simp; rfl) ?_
  simp [F138_spindlelaw8_few]
  generalize hL : cden pr (.loop _ _ _) _ _ = o
  have key : ∃ r, o = some r ∧ ((∃ e, r = (.exit 0, e, s0 [] [] 0 0) ∧ few 0 ns = true) ∨ (∃ e, r = (.ret, e, s0 [] [] 0 0) ∧ e.get 2 = some (.d (.b false)) ∧ few 0 ns = false)) := by
    rw [← hL]
    obtain ⟨J2, hJ2⟩ : ∃ J2 : Out → Prop, ∀ r, J2 r ↔ ((∃ e, r = (.exit 0, e, s0 [] [] 0 0) ∧ few 0 ns = true) ∨ (∃ e, r = (.ret, e, s0 [] [] 0 0) ∧ e.get 2 = some (.d (.b false)) ∧ few 0 ns = false)) := ⟨_, fun _ => Iff.rfl⟩
    obtain ⟨J, hJ⟩ : ∃ J : Nat → Env → St → Prop, ∀ n e s, J n e s ↔ ∃ i acc : Nat, i ≤ ns.length ∧ n = ns.length - i ∧ acc ≤ 536870911 ∧ e = [(0, dsl nmC nz ns), (3, .d (.i .i64 acc)), (4, .d (.i .i64 i))] ∧ s = s0 [] [] 0 0 ∧ few 0 ns = few acc (ns.drop i) := ⟨_, fun _ _ _ => Iff.rfl⟩
    suffices h : ∃ r, cden pr (.loop [0, 3, 4] false F138_spindlelaw8_few_b0) [(0, dsl nmC nz ns), (3, .d (.i .i64 0)), (4, .d (.i .i64 0))] (s0 [] [] 0 0) = some r ∧ J2 r by
      obtain ⟨r, h1, h2⟩ := h
      exact ⟨r, h1, (hJ2 r).1 h2⟩
    refine loop_j J ?_ (n := ns.length) ((hJ _ _ _).2 ⟨0, 0, Nat.zero_le _, rfl, by omega, by simp, rfl, rfl⟩)
    intro n e s h
    obtain ⟨i, acc, hi, rfl, ha, rfl, rfl, hf⟩ := (hJ _ _ _).1 h
    rcases Nat.lt_or_ge i ns.length with hlt | hge
    · obtain ⟨s, hsi⟩ : ∃ s, ns[i]? = some s := ⟨_, List.getElem?_eq_getElem hlt⟩
      have hsl := hs s (List.mem_of_getElem? hsi)
      have hia := hd.iaddr (i := (i : Int)) (k := .i64) (by omega) (by simpa using hlt)
      have hld := fun st => hd.load (st := st) (i := i) (o := 0) (n := 1) (agg := false) (el := [.s s]) (by simp [hsi, nmC]) (by omega) (by omega)
      simp [mkV, ofDs] at hia hld
      have hdr : ns.drop i = s :: ns.drop (i + 1) := by rw [List.drop_eq_getElem_cons hlt, (List.getElem?_eq_some_iff.1 hsi).2]
      rw [hdr] at hf
      simp only [few] at hf
      have w1 : IntKind.wrap .i64 ((acc : Int) + s.length) = acc + s.length := wrap_i64 (by omega) (by omega)
      have w2 : IntKind.wrap .i64 ((acc : Int) + s.length + 2) = acc + s.length + 2 := wrap_i64 (by omega) (by omega)
      have w3 : IntKind.wrap .i64 (4 * ((acc : Int) + s.length + 2)) = 4 * ((acc : Int) + s.length + 2) := wrap_i64 (by omega) (by omega)
      have w4 : IntKind.wrap .i64 ((i : Int) + 1) = i + 1 := wrap_i64 (by omega) (by omega)
      by_cases hc : 4 * (acc + s.length + 2) > 2147483647
      · have hc' : (2147483647 : Int) < 4 * ((acc : Int) + s.length + 2) := by omega
        rw [if_pos hc] at hf
        simp [F138_spindlelaw8_few_b0, hlt, hia, hld, w1, w2, w3, hc']
        exact (hJ2 _).2 (.inr ⟨_, rfl, by simp, hf⟩)
      · have hc' : ¬ (2147483647 : Int) < 4 * ((acc : Int) + s.length + 2) := by omega
        rw [if_neg hc] at hf
        simp [F138_spindlelaw8_few_b0, hlt, hia, hld, w1, w2, w3, hc', w4]
        refine ⟨ns.length - (i + 1), by omega, (hJ _ _ _).2 ⟨i + 1, acc + s.length + 2, by omega, rfl, by omega, ?_, rfl, hf⟩⟩
        simp
    · have : i = ns.length := by omega
      subst this
      simp [F138_spindlelaw8_few_b0]
      exact (hJ2 _).2 (.inl ⟨_, rfl, by simpa [few] using hf⟩)
  obtain ⟨r, rfl, ⟨e, rfl, hf⟩ | ⟨e, rfl, e2, hf⟩⟩ := key
  · simp [hf]
  · simp [e2, hf]
include hp hq
theorem den_awake8 : den pr 145 [] st = some (.d (.b true), st) := by
  obtain ⟨s1, a1, a2, a3⟩ := den_New hp (st := s0 [] [] 0 0) rfl rfl
  obtain ⟨s2, tn, tp, b1, b2, b3, b4⟩ := den_Add_new hp hq a2 (s := [97, 98]) (by decide) (by simp) (by decide)
  have h3 := den_At hp b2 1 (by decide)
  have h4 : (if (1 : Int) = 0 then [] else (atI 1 ([] ++ [[97, 98]])).getD []) = ([97, 98] : List UInt8) := by decide
  have h5 : (if (1 : Int) = 0 ∨ (atI 1 ([] ++ [[97, 98]])).isSome then (0 : Int) else 81) = 0 := by decide
  rw [h4, h5] at h3
  have he : ((endAt 1 [] : Nat) : Int) = 1 := rfl
  rw [he] at b1
  refine den_shut (hl.at 0 rfl) rfl rfl rfl ?_
  simp at a1 b1 h3
  simp [F145_spindlelaw8_awake, a1, b1, h3, eqV]
theorem law_StrsBack {nz : Bool} {ns : List Nm} (hs : ∀ s ∈ ns, s.length ≤ 140737488351232) (hn : ns.length ≤ 140737488351232) : ∃ st', den pr 141 [dsl nmC nz ns] st0 = some (.d (.b true), st') := by
  have hfew := fun st => den_few hl (st := st) (nz := nz) hs hn
  have haw := fun st => den_awake8 hp hq hl (st := st)
  have hd := dsl_d (c := nmC) (sz := 1) (fun _ => rfl) nz ns
  suffices h : Ans (fun v _ => v = .d (.b true)) (den pr 141 [dsl nmC nz ns] st0) by
    obtain ⟨v, s, h1, rfl⟩ := h.ex
    exact ⟨s, h1⟩
  rw [den_fn (hl.at 2 rfl) rfl rfl, start_raw _ rfl]
  cases hf : few 0 ns with
  | false => simp [F141_spindlelaw8_StrsBack, hfew, hf]
  | true =>
  have hend := few_end (a := 1) hf (by omega) (by omega)
  obtain ⟨s1, n1, n2, n3⟩ := den_New hp (st := st0) rfl rfl
  simp at n1
  simp [F141_spindlelaw8_StrsBack, hfew, hf, n1, eqV]
  generalize hL : cden pr (.loop [0, 3, 4, 5, 6] _ _) _ _ = o
  obtain ⟨J2, hJ2⟩ : ∃ J2 : Out → Prop, ∀ r, J2 r ↔ ∃ (e : Env) (s : St) (m tn tp tq tk : Nat) (vQ vK : V) (ts : List Nm) (qs : List Nat) (ks : List Nm), r = (.exit 0, e, s) ∧ e.get 3 = some (.ptr 1 0) ∧ e.get 4 = some vQ ∧ e.get 5 = some vK ∧ Tbl s 1 m tn tp ts ∧ NL s vQ tq (qs.map fun (q : Nat) => .i .i64 (q : Int)) ∧ NL s vK tk (ks.map .s) ∧ qs.length = ks.length ∧ (∀ (j : Nat) x, ks[j]? = some x → okNm x = true ∧ ∃ q, qs[j]? = some q ∧ findNm x 1 ts = some q) ∧ endAt 1 ts ≤ endAt 1 ns ∧ ks.length ≤ ns.length := ⟨_, fun _ => Iff.rfl⟩
  have key : ∃ r, o = some r ∧ J2 r := by
    rw [← hL]
    obtain ⟨J, hJ⟩ : ∃ J : Nat → Env → St → Prop, ∀ n e s, J n e s ↔ ∃ (i m tn tp tq tk : Nat) (vQ vK : V) (ts : List Nm) (qs : List Nat) (ks : List Nm), i ≤ ns.length ∧ n = ns.length - i ∧ e = [(0, dsl nmC nz ns), (3, .ptr 1 0), (4, vQ), (5, vK), (6, .d (.i .i64 (i : Nat)))] ∧
      Tbl s 1 m tn tp ts ∧ NL s vQ tq (qs.map fun (q : Nat) => .i .i64 (q : Int)) ∧ NL s vK tk (ks.map .s) ∧ qs.length = ks.length ∧ (∀ (j : Nat) x, ks[j]? = some x → okNm x = true ∧ ∃ q, qs[j]? = some q ∧ findNm x 1 ts = some q) ∧ endAt 1 ts ≤ endAt 1 (ns.take i) ∧ ks.length ≤ i ∧ (qs = [] ↔ ts = []) ∧
      (ts ≠ [] → tn ≠ tq ∧ tn ≠ tk ∧ tp ≠ tq ∧ tp ≠ tk ∧ tq ≠ tk ∧ tn < s.tips.length ∧ tp < s.tips.length) := ⟨_, fun _ _ _ => Iff.rfl⟩
    refine loop_j J ?_ (n := ns.length) ((hJ _ _ _).2 ⟨0, 0, 0, 0, 0, 0, .d (.sl 0 false []), .d (.sl 0 false []), [], [], [], Nat.zero_le _, rfl, by simp, n2, .inl ⟨rfl, rfl⟩, .inl ⟨rfl, rfl⟩, rfl, fun j x h => by simp at h, by simp [endAt], Nat.le_refl _, by simp, fun h => absurd rfl h⟩)
    intro n e s h
    obtain ⟨i, m, tn, tp, tq, tk, vQ, vK, ts, qs, ks, hi, rfl, rfl, htb, hQ, hK, hqk, hrel, hle, hki, hqt, hdis⟩ := (hJ _ _ _).1 h
    clear h
    have hge := endAt_ge (a := 1) (ns := ns)
    rcases Nat.lt_or_ge i ns.length with hlt | hge2
    rotate_left
    · have : i = ns.length := by omega
      subst this
      simp [F141_spindlelaw8_StrsBack_b0]
      rw [List.take_length] at hle
      exact (hJ2 _).2 ⟨_, _, m, tn, tp, tq, tk, vQ, vK, ts, qs, ks, rfl, by simp, by simp, by simp, htb, hQ, hK, hqk, hrel, hle, hki⟩
    obtain ⟨x, hx⟩ : ∃ x, ns[i]? = some x := ⟨_, List.getElem?_eq_getElem hlt⟩
    have hia := hd.iaddr (i := (i : Int)) (k := .i64) (by omega) (by simpa using hlt)
    have hld := fun st => hd.load (st := st) (i := i) (o := 0) (n := 1) (agg := false) (el := [.s x]) (by simp [hx, nmC]) (by omega) (by omega)
    simp [mkV, ofDs] at hia hld
    have w1 : IntKind.wrap .i64 ((i : Int) + 1) = i + 1 := wrap_i64 (by omega) (by omega)
    have htk : ns.take (i + 1) = ns.take i ++ [x] := by rw [List.take_add_one, hx]; rfl
    have he1 : endAt 1 (ns.take (i + 1)) = endAt 1 (ns.take i) + x.length + 1 := by rw [htk, endAt_snoc]
    have hsm : endAt 1 (ns.take (i + 1)) ≤ endAt 1 ns := by
      conv => rhs; rw [← List.take_append_drop (i + 1) ns, endAt_app]
      exact Nat.le_trans (Nat.le_add_right _ _) endAt_ge
    cases hok : okNm x with
    | false =>
      have hadd := den_Add_bad hp hq (st := s) (p := 1) hok
      simp [F141_spindlelaw8_StrsBack_b0, hlt, hia, hld, hadd, w1]
      refine ⟨ns.length - (i + 1), by omega, (hJ _ _ _).2 ⟨i + 1, m, tn, tp, tq, tk, vQ, vK, ts, qs, ks, by omega, rfl, by simp, htb, hQ, hK, hqk, hrel, by omega, by omega, hqt, hdis⟩⟩
    | true =>
    -- the lists get one more
    have more : ∀ (s' : St) (tn' tp' : Nat) (ts' : List Nm) (q : Nat), Tbl s' 1 m tn' tp' ts' → NL s' vQ tq (qs.map fun (q : Nat) => .i .i64 (q : Int)) → NL s' vK tk (ks.map .s) → findNm x 1 ts' = some q → ts' ≠ [] → (∀ y r, findNm y 1 ts = some r → findNm y 1 ts' = some r) → endAt 1 ts' ≤ endAt 1 (ns.take (i + 1)) →
        (qs ≠ [] → tn' ≠ tq ∧ tn' ≠ tk ∧ tp' ≠ tq ∧ tp' ≠ tk ∧ tq ≠ tk) → tn' < s'.tips.length → tp' < s'.tips.length → (ks = [] ↔ qs = []) → den pr 140 [.ptr 1 0, .d (.s x)] s = some (.tup [.d (.i .i64 (q : Nat)), .d (.i .i64 0)], s') →
        JStep [0, 3, 4, 5, 6] (ns.length - i) J J2 (Option.map (cutR s false) (cden pr F141_spindlelaw8_StrsBack_b0 [(0, dsl nmC nz ns), (3, .ptr 1 0), (4, vQ), (5, vK), (6, .d (.i .i64 (i : Nat)))] (enterR s false))) := by
      intro s' tn' tp' ts' q hT hQ' hK' hfq hne hmono hend' hd' htn htp hkq hadd
      have hqn : (qs.map fun (q : Nat) => D.i .i64 (q : Int)).length = ks.length := by rw [List.length_map, hqk]
      obtain ⟨vQ2, tq2, s2, a1, a2, a3, a4, a5⟩ := hQ'.app hT.tf (x := .i .i64 (q : Nat)) (by' := 8) (by rw [hqn]; omega) (by rw [hqn]; omega)
      have hK2 : NL s2 vK tk (ks.map .s) := hK'.keep a4 fun hc he => by
        have hq0 : qs ≠ [] := fun e => hc (by simp [hkq.2 e])
        exact (hd' hq0).2.2.2.2 he.2.symm
      obtain ⟨vK2, tk2, s3, b1, b2, b3, b4, b5⟩ := hK2.app (a4.tfloor.trans hT.tf) (x := .s x) (by' := 16) (by simp; omega) (by simp; omega)
      simp [F141_spindlelaw8_StrsBack_b0, hlt, hia, hld, hadd, w1, fillV, lay, ofDs, reps, a1, b1]
      have hq0 : ∀ {u}, qs.map (fun (q : Nat) => D.i .i64 (q : Int)) ≠ [] ∧ u = tq → qs ≠ [] := fun h => fun e => h.1 (by simp [e])
      have hk0 : ∀ {u}, ks.map D.s ≠ [] ∧ u = tk → qs ≠ [] := fun h => fun e => h.1 (by simp [hkq.2 e])
      have hT2 : Tbl s2 1 m tn' tp' ts' := hT.keep a4 id id fun _ => ⟨fun e => (hd' (hq0 e)).1 e.2, fun e => (hd' (hq0 e)).2.2.1 e.2⟩
      have hT3 : Tbl s3 1 m tn' tp' ts' := hT2.keep b4 id id fun _ => ⟨fun e => (hd' (hk0 e)).2.1 e.2, fun e => (hd' (hk0 e)).2.2.2.1 e.2⟩
      have l2 := a2.lt (by simp)
      have hQ3 : NL s3 vQ2 tq2 ((qs ++ [q]).map fun (q : Nat) => .i .i64 (q : Int)) := by
        rw [List.map_append]
        refine a2.keep b4 fun _ e => ?_
        rcases a5 with ⟨c0, rfl⟩ | rfl
        · exact (hd' (hk0 e)).2.2.2.2 e.2
        · have := hK'.lt e.1
          omega
      have t12 := a4.tlen
      have t23 := b4.tlen
      refine ⟨ns.length - (i + 1), by omega, (hJ _ _ _).2 ⟨i + 1, m, tn', tp', tq2, tk2, vQ2, vK2, ts', qs ++ [q], ks ++ [x], by omega, rfl, by simp, hT3, hQ3, by rw [List.map_append]; exact b2, by simp [hqk], ?_, hend', by simp; omega, by simp [hne], fun _ => ?_⟩⟩
      · intro j y hy
        rcases Nat.lt_or_ge j ks.length with hj | hj
        · rw [List.getElem?_append_left hj] at hy
          obtain ⟨h1, r, h2, h3⟩ := hrel j y hy
          exact ⟨h1, r, by rw [List.getElem?_append_left (by omega)]; exact h2, hmono y r h3⟩
        · have hj' := (List.getElem?_eq_some_iff.1 hy).1
          rw [List.length_append, List.length_singleton] at hj'
          have : j = ks.length := by omega
          subst this
          rw [List.getElem?_append_right (Nat.le_refl _), Nat.sub_self] at hy
          simp only [List.getElem?_cons_zero, Option.some.injEq] at hy
          subst hy
          exact ⟨hok, q, by rw [← hqk, List.getElem?_append_right (Nat.le_refl _), Nat.sub_self]; rfl, hfq⟩
      · have c1 : tn' ≠ tq2 := by
          rcases a5 with ⟨c0, rfl⟩ | rfl
          · exact (hd' fun e => c0 (by simp [e])).1
          · omega
        have c2 : tp' ≠ tq2 := by
          rcases a5 with ⟨c0, rfl⟩ | rfl
          · exact (hd' fun e => c0 (by simp [e])).2.2.1
          · omega
        have c3 : tn' ≠ tk2 := by
          rcases b5 with ⟨c0, rfl⟩ | rfl
          · exact (hd' fun e => c0 (by simp [hkq.2 e])).2.1
          · omega
        have c4 : tp' ≠ tk2 := by
          rcases b5 with ⟨c0, rfl⟩ | rfl
          · exact (hd' fun e => c0 (by simp [hkq.2 e])).2.2.2.1
          · omega
        have c5 : tq2 ≠ tk2 := by
          rcases b5 with ⟨c0, rfl⟩ | rfl
          · have hq1 : qs ≠ [] := fun e => c0 (by simp [hkq.2 e])
            rcases a5 with ⟨_, rfl⟩ | rfl
            · exact (hd' hq1).2.2.2.2
            · have := hK'.lt c0
              omega
          · omega
        exact ⟨c1, c3, c2, c4, c5, by omega, by omega⟩
    have hkq : ks = [] ↔ qs = [] := by
      rw [← List.length_eq_zero_iff, ← List.length_eq_zero_iff, hqk]
    cases hfn : findNm x 1 ts with
    | some q =>
      have hne : ts ≠ [] := by
        rintro rfl
        simp [findNm] at hfn
      obtain ⟨d1, d2, d3, d4, d5, d6, d7⟩ := hdis hne
      exact more s tn tp ts q htb hQ hK hfn hne (fun _ _ h => h) (by omega) (fun _ => ⟨d1, d2, d3, d4, d5⟩) d6 d7 hkq (den_Add_old hp hq htb hok hfn)
    | none =>
      have hnm := findNm_none.1 hfn
      obtain ⟨s', tn', tp', p1, p2, p3, p4⟩ := den_Add_new hp hq htb hok hnm (by omega)
      obtain ⟨vN', vP', _, hN', hP'⟩ := p2.row
      have ln := hN'.lt (by simp)
      have lp := hP'.lt (fun e => by simp [plcs_app, plcs] at e)
      have hkeep : ∀ u, ts ≠ [] → tn ≠ u → tp ≠ u → ¬ TT tn tp ts u := fun u _ h1 h2 h3 => by
        rcases h3.2 with h | h
        · exact h1 h.symm
        · exact h2 h.symm
      have hQ' : NL s' vQ tq (qs.map fun (q : Nat) => .i .i64 (q : Int)) := hQ.keep p3 fun hc h => by
        have hne : ts ≠ [] := fun e => hc (by simp [hqt.2 e])
        obtain ⟨d1, d2, d3, d4, d5, d6, d7⟩ := hdis hne
        exact hkeep tq hne d1 d3 h
      have hK' : NL s' vK tk (ks.map .s) := hK.keep p3 fun hc h => by
        have hne : ts ≠ [] := fun e => hc (by simp [hkq.2 (hqt.2 e)])
        obtain ⟨d1, d2, d3, d4, d5, d6, d7⟩ := hdis hne
        exact hkeep tk hne d2 d4 h
      refine more s' tn' tp' (ts ++ [x]) (endAt 1 ts) p2 hQ' hK' (by rw [findNm_app, hfn]; simp [findNm]) (by simp) (fun y r h => by rw [findNm_app, h]; rfl) (by rw [endAt_snoc]; omega) (fun hq0 => ?_) ln lp hkq p1
      have hne : ts ≠ [] := fun e => hq0 (hqt.2 e)
      obtain ⟨d1, d2, d3, d4, d5, d6, d7⟩ := hdis hne
      have lq := hQ.lt (fun e => hq0 (by simpa using e))
      have lk := hK.lt (fun e => hq0 (hkq.1 (by simpa using e)))
      rcases p4 with ⟨rfl, rfl, _⟩ | ⟨q1, q2⟩
      · exact ⟨d1, d2, d3, d4, d5⟩
      · exact ⟨by omega, by omega, by omega, by omega, d5⟩
  obtain ⟨r, rfl, hr⟩ := key
  obtain ⟨e, s, m, tn, tp, tq, tk, vQ, vK, ts, qs, ks, rfl, e3, e4, e5, htb, hQ, hK, hqk, hrel, hle, hkn⟩ := (hJ2 _).1 hr
  have hgen := endAt_ge (a := 1) (ns := ns)
  have hby := den_Bytes hp htb (by omega)
  have htl : (tabB ts).length = endAt 1 ts := tabB_len
  obtain ⟨x, s2, r1, r2, r3⟩ := den_Read hp hq (v := bsl true (tabB ts)) (L := tabB ts) htb.fl htb.tf (.inl ⟨true, rfl⟩) (by omega)
  rw [readB_tab htb.ok htb.nd] at r3
  obtain ⟨p2, m2, tn2, tp2, rfl, htb2, hp2, hm2, _⟩ := r3
  have htb1 := htb.keep r2 id id fun _ => ⟨id, id⟩
  have hQ2 := hQ.keep r2 fun _ => id
  have hK2 := hK.keep r2 fun _ => id
  have hKl := hK2.len
  rw [List.length_map] at hKl
  have hge := endAt_ge (a := 1) (ns := ts)
  simp [e3, e4, e5, hby, r1, eqV]
  generalize hL2 : cden pr (.loop _ _ _) _ _ = o
  have key2 : ∃ r, o = some r ∧ ∃ e, r = (.exit 2, e, s2) ∧ e.get 9 = some (bsl true (tabB ts)) ∧ e.get 11 = some (.ptr p2 0) := by
    rw [← hL2]
    refine loop_n ks.length (fun i => [(3, .ptr 1 0), (4, vQ), (5, vK), (9, bsl true (tabB ts)), (11, .ptr p2 0), (14, .d (.i .i64 (i : Nat)))]) (fun _ => s2) ?_ (by simp) rfl
    intro i hi
    rcases Nat.lt_or_ge i ks.length with hlt | hge2
    rotate_left
    · have : i = ks.length := by omega
      subst this
      simp [F141_spindlelaw8_StrsBack_b1, hKl]
    obtain ⟨y, hy⟩ : ∃ y, ks[i]? = some y := ⟨_, List.getElem?_eq_getElem hlt⟩
    obtain ⟨hyok, q, hqi, hfy⟩ := hrel i y hy
    obtain ⟨a1, a2⟩ := hQ2.get (i := i) (x := .i .i64 (q : Nat)) (by simp [hqi]) (k := .i64)
    obtain ⟨b1, b2⟩ := hK2.get (i := i) (x := .s y) (by simp [hy]) (k := .i64)
    obtain ⟨j, hj, hqj⟩ := findNm_some hfy
    obtain ⟨q', hq', t1, t2, t3, t4, t5⟩ := tabB_name hj
    rw [← hqj] at hq'
    subst hq'
    have w1 : IntKind.wrap .i64 ((i : Int) + 1) = i + 1 := wrap_i64 (by omega) (by omega)
    have w2 : IntKind.wrap .i64 ((q' : Int) + y.length) = q' + y.length := wrap_i64 (by omega) (by omega)
    have w3 : IntKind.wrap .i64 ((q' : Int) - 1) = ((q' - 1 : Nat) : Int) := by rw [wrap_i64 (by omega) (by omega)]; omega
    have hsl := bsl_slc true (tabB ts) (lo := some (.d (.i .i64 (q' : Nat)))) (hi := some (.d (.i .i64 ((q' : Int) + y.length)))) (a := q') (b := q' + y.length) (by simp [Bd, intV]) rfl (by omega) (by omega)
    rw [t1] at hsl
    obtain ⟨g1, g2⟩ := bsl_iaddr (nz := true) t2 (k := .i64)
    obtain ⟨g3, g4⟩ := bsl_iaddr (nz := true) t3 (k := .i64)
    have hc : (((q' + y.length : Nat) : Int)) = (q' : Int) + y.length := by omega
    rw [hc] at g1
    have n1 : ¬ ((q' : Int) < 1) := by omega
    have n1' : ¬ q' < 1 := by omega
    have n2 : ¬ (((tabB ts).length : Int) ≤ (q' : Int) + y.length) := by omega
    have hat := den_At hp htb1 (q' : Nat) (by omega)
    have hat2 := den_At hp htb2 (q' : Nat) (by omega)
    have hav : atI (q' : Nat) ts = some y := by
      unfold atI
      rw [if_neg (by omega), Int.toNat_natCast, hqj]
      exact nmAt_at hj
    have hz : ¬ (q' = 0) := by omega
    simp [hav, hz] at hat hat2
    have hadd := den_Add_old hp hq htb2 hyok hfy
    simp [F141_spindlelaw8_StrsBack_b1, hKl, hlt, a1, a2, b1, b2, w1, w2, w3, hsl, g1, g2, g3, g4, n1, n1', n2, hat, hat2, hadd]
  obtain ⟨r, rfl, e', rfl, e9, e11⟩ := key2
  have hby2 := den_Bytes hp htb2 (by omega)
  have hsame := fun st => den_sameB8 hl (st := st) (nz := true) (nz' := true) (L := tabB ts) (L' := tabB ts)
  simp [e9, e11, hby2, hsame, haw]
end
end Go.Sh
