/- Sections read: the names, whole. -/
import Derived.Test.YtpgipjjhapapjabShLelfL
set_option linter.unusedVariables false
set_option linter.unusedSimpArgs false
namespace Go.Sh
theorem rdNm_place : ∀ {k : Nat} {ns : List Nm} {a q : Nat} {r : List UInt8}, rdNm k ns a r = (none, q) → q ≤ a + r.length
  | 0, ns, a, q, r, h => by simp [rdNm] at h
  | k + 1, ns, a, q, r, h => by
    unfold rdNm at h
    split at h
    · cases h
    · split at h
      · simp only [Prod.mk.injEq, true_and] at h
        omega
      · rename_i h1 h2
        have := rdNm_place h
        have hl := toZero_len r
        rw [List.length_drop] at this
        simp only [not_or] at h2
        omega
theorem readB_place {X : List UInt8} {q : Nat} (h : readB X = (none, q)) : q ≤ X.length := by
  cases X with
  | nil =>
    simp only [readB, Prod.mk.injEq, true_and] at h
    omega
  | cons x r =>
    simp only [readB] at h
    split at h
    · have := rdNm_place h
      simp only [List.length_cons]
      omega
    · simp only [Prod.mk.injEq, true_and] at h
      omega
theorem namesM_nx {ns : List Nm} {L : List UInt8} {t n : Nat} (hns : ∀ s ∈ ns, s.length ≤ 64) : ∀ {m k nx nx' : Nat} {sl : List (Nat × Nat)} {out out' : List Nm}, namesM ns L t n m k sl nx out = .inr (out', nx') → nx ≤ 8589934592 → nx' ≤ 8589934592
  | 0, k, nx, nx', sl, out, out', h, hb => by
    simp only [namesM, Sum.inr.injEq, Prod.mk.injEq] at h
    omega
  | m + 1, k, nx, nx', sl, out, out', h, hb => by
    simp only [namesM] at h
    split at h
    · cases h
    · rename_i s hs
      split at h
      · cases h
      · split at h
        · exact namesM_nx hns h hb
        · refine namesM_nx hns h ?_
          have h1 := fv0_lt L t k
          have h2 : s.length ≤ 64 := by
            unfold nmOf at hs
            split at hs
            · cases hs
            · obtain ⟨i, h3, _⟩ := nmAt_some hs
              exact hns s (List.mem_of_getElem? h3)
          omega
def dataAt (L : List UInt8) (t : Nat) (ats : List Nat) (k : Nat) : List UInt8 := (L.take (ats.getD k 0 + fv (entAt L t k) 5)).drop (ats.getD k 0)
def namesR (L : List UInt8) (t n : Nat) (ats : List Nat) : Nat ⊕ List Nm := match readB (dataAt L t ats (n - 1)) with
  | (none, q) => .inl (ats.getD (n - 1) 0 + q)
  | (some ns, _) => match namesM ns L t n (n - 1) 1 [] 1 [] with
    | .inl b => .inl b
    | .inr (out, nx) => if nx = fv (entAt L t (n - 1)) 5 then .inr out else .inl (ats.getD (n - 1) 0 + nx)
section
variable {pr : Prog} (hp : Sub elfFns pr) (hs : Sub strsFns pr) (hq : SubP strsPrims pr)
include hp hs hq
theorem den_names {st : St} {p t n : Nat} {L : List UInt8} {vE vA : V} {tE tA : Nat} {ats : List Nat} (hfl : st.floor = 0) (htf : st.tfloor = 0) (hro : st.row p = some [bsl true L, .d (.i .i64 (t : Nat)), vE, vA]) (hE : NL st vE tE ((entsTo L t n).map entD)) (hA : NL st vA tA (intC ats)) (hal : ats.length = n) (hn2 : 2 ≤ n) (hn18 : n ≤ 18) (htL : t ≤ L.length) (hL : L.length ≤ 1099511626000)
    (hfit : ∀ k b, ats[k]? = some b → 0 < k → b + fv (entAt L t k) 5 ≤ t) :
    ∃ v s, den pr 194 [.ptr p 0] st = some (v, s) ∧ match namesR L t n ats with
      | .inl b => v = .tup [.d (.sl 0 false []), .d (.i .i64 (b : Nat))]
      | .inr out => ∃ T, v = .tup [.own 1 (n - 1) true (out.map .s) T, .d (.i .i64 (-1))] ∧ out.length = n - 1 ∧ Kp st s (fun _ => False) (fun _ => False) := by
  obtain ⟨R, hR⟩ : ∃ R : V → St → Prop, ∀ v s, R v s ↔ match namesR L t n ats with
      | .inl b => v = .tup [.d (.sl 0 false []), .d (.i .i64 (b : Nat))]
      | .inr out => ∃ T, v = .tup [.own 1 (n - 1) true (out.map .s) T, .d (.i .i64 (-1))] ∧ out.length = n - 1 ∧ Kp st s (fun _ => False) (fun _ => False) := ⟨_, fun _ _ => Iff.rfl⟩
  suffices h : Ans R (den pr 194 [.ptr p 0] st) by
    obtain ⟨x, st', h1, h2⟩ := h.ex
    exact ⟨x, st', h1, (hR _ _).1 h2⟩
  obtain ⟨f, hf⟩ : ∃ f, f = n - 1 := ⟨_, rfl⟩
  obtain ⟨a, ha⟩ : ∃ a, ats[f]? = some a := ⟨_, List.getElem?_eq_getElem (by omega)⟩
  obtain ⟨F, hF⟩ : ∃ F, F = entAt L t f := ⟨_, rfl⟩
  obtain ⟨x, hx⟩ : ∃ x, x = fv F 5 := ⟨_, rfl⟩
  have hFl : F.length = 10 := by rw [hF]; exact entAt_len _ _ _
  have hfn : f < n := by omega
  have hEk : (entsTo L t n)[f]? = some F := by simp [entsTo, hfn, hF]
  have hfx := hfit f a ha (by omega)
  rw [← hF, ← hx] at hfx
  have hgd : ats.getD f 0 = a := by rw [List.getD_eq_getElem?_getD, ha]; rfl
  obtain ⟨X, hX⟩ : ∃ X, X = (L.take (a + x)).drop a := ⟨_, rfl⟩
  have hXl : X.length ≤ L.length := by rw [hX, List.length_drop, List.length_take]; omega
  have hda : dataAt L t ats f = X := by unfold dataAt; rw [hgd, ← hF, ← hx, hX]
  have hda2 := den_data hp (st := st) hro hE hA hEk ha hFl (by rw [← hx]; omega) (by omega)
  rw [← hx, ← hX] at hda2
  have hcl := fun st => den_clone9 hp (st := st) X (by omega)
  obtain ⟨rv, s1, r1, r2⟩ := den_Read hs hq (st := st) hfl htf (v := bsl true X) (L := X) (.inl ⟨true, rfl⟩) (by omega)
  obtain ⟨k1, r2⟩ := r2
  have hElen := hE.len
  rw [List.length_map, show (entsTo L t n).length = n by simp [entsTo]] at hElen
  have w1 : IntKind.wrap .i64 ((n : Int) - 1) = (f : Int) := by rw [wrap_i64 (by omega) (by omega)]; omega
  have hro1 : s1.row p = some [bsl true L, .d (.i .i64 (t : Nat)), vE, vA] := (row_of_heap (k1.heap p (row_lt hro) (fun h => h))).trans hro
  obtain ⟨g1, g2⟩ := hA.get (i := f) (x := .i .i64 (a : Int)) (by simp [intC, ha]) (k := .i64)
  have hnR : namesR L t n ats = match readB X with
    | (none, q) => .inl (a + q)
    | (some ns, _) => match namesM ns L t n (n - 1) 1 [] 1 [] with
      | .inl b => .inl b
      | .inr (out, nx) => if nx = x then .inr out else .inl (a + nx) := by
    unfold namesR
    rw [← hf, hda, hgd, ← hF, ← hx]
  rw [den_fn (hp.at 12 rfl) rfl rfl, start_raw _ rfl]
  cases hrd : readB X with
  | mk o q =>
  rw [hrd] at r2 hnR
  cases o with
  | none =>
    simp only at r2 hnR
    subst r2
    have hqb : q ≤ X.length := readB_place hrd
    have w2 : IntKind.wrap .i64 ((a : Int) + (q : Int)) = ((a + q : Nat) : Int) := by rw [wrap_i64 (by omega) (by omega)]; omega
    simp [F194_elf_file_names, hro, mkV, hElen, w1, hda2, hcl, r1, hro1, g1, g2, w2]
    exact (hR _ _).2 (by rw [hnR]; simp)
  | some ns =>
    simp only at r2 hnR
    obtain ⟨qt, m, tn, tp, rfl, hTb, hq1, hm1, htk⟩ := r2
    have hns : X = tabB ns := (readB_some hrd).1
    have hend : endAt 1 ns ≤ 1099511627776 := by
      rw [← tabB_len, ← hns]
      omega
    obtain ⟨s2, hs2⟩ : ∃ s2, s2 = ({ s1 with tips := s1.tips ++ [0] } : St) := ⟨_, rfl⟩
    obtain ⟨s3, hs3⟩ : ∃ s3, s3 = s2.push (.map []) := ⟨_, rfl⟩
    have k2 : Kp s1 s2 (fun _ => False) (fun _ => False) := by rw [hs2]; exact ⟨rfl, rfl, Nat.le_refl _, by simp, fun _ _ _ => rfl, fun u hu _ => by simp only; rw [List.getElem?_append_left hu]⟩
    have k3 : Kp s2 s3 (fun _ => False) (fun _ => False) := by rw [hs3]; exact .push _
    have k13 := k2.trans k3
    have hh2 : s2.heap = s1.heap := by rw [hs2]
    have hmap : s3.mapOf s2.heap.length = some [] := by rw [hs3]; exact mapOf_push_new
    have hti : s3.tips[s1.tips.length]? = some 0 := by rw [hs3, hs2]; simp
    have hro3 : s3.row p = some [bsl true L, .d (.i .i64 (t : Nat)), vE, vA] := (row_of_heap (k13.heap p (row_lt hro1) (fun h => h))).trans hro1
    have hpl := row_lt hro1
    have hql := hTb.plt
    have hml := map_lt hTb.map
    have hTb3 : Tbl s3 qt m tn tp ns := hTb.keep k13 (fun h => h) (fun h => h) fun _ => ⟨fun h => h, fun h => h⟩
    have htl : ns ≠ [] → tn ≠ s1.tips.length ∧ tp ≠ s1.tips.length := fun hne => by
      obtain ⟨vN, vP, _, hN, hP⟩ := hTb.row
      have e1 := hN.lt (by simpa using hne)
      have e2 := hP.lt (by simpa using plcs_ne (a := 1) hne)
      exact ⟨by omega, by omega⟩
    obtain ⟨r, q1, q2⟩ := names_in hs (p := p) (q := qt) (t := t) (n := n) (L := L) (T := s1.tips.length) hro3 hE hTb3 hend hmap hti (by rw [hh2]; omega) (by rw [hh2]; omega) (by rw [hh2]; omega) htl hn2 hn18 (by omega)
    rw [← hf] at q1 q2 hnR
    simp [F194_elf_file_names, hro, mkV, hElen, w1, hda2, hcl, r1, ← hs2, ← hs3, q1]
    rcases q2 with ⟨e, s4, out, nx, rfl, u0, u4, u8, u10, hT4, hol, k4, hM⟩ | ⟨e, s4, b, rfl, u2, u3, hM⟩
    rotate_left
    · rw [hM] at hnR
      simp [u2, u3]
      exact (hR _ _).2 (by rw [hnR])
    rw [hM] at hnR
    simp only at hnR
    have hro4 : s4.row p = some [bsl true L, .d (.i .i64 (t : Nat)), vE, vA] := (row_of_heap (k4.heap p (row_lt hro3) (by rw [hh2]; omega))).trans hro3
    have hsz := den_size hp (st := s4) hro4 hE hEk hFl (by rw [← hx]; omega)
    rw [← hx] at hsz
    by_cases hnx : nx = x
    · have hnx' := eq_true (show (nx : Int) = (x : Int) by omega)
      rw [if_pos hnx] at hnR
      simp [u0, u4, u8, u10, hsz, hnx, hnx']
      refine (hR _ _).2 ?_
      rw [hnR, ← hf]
      have h1 := k1.hlen
      have h2 := k1.tlen
      refine ⟨_, rfl, hol, ((((k1.trans k13).mono (fun _ _ h => h.elim) fun _ _ h => h.elim).trans k4).mono (fun i hi he => ?_) fun u hu he => ?_)⟩
      · rw [hh2] at he
        omega
      · omega
    · have hnx' : ¬ (nx : Int) = (x : Int) := by omega
      rw [if_neg hnx] at hnR
      have hnb : nx ≤ 8589934592 := namesM_nx (fun s hs => (okNm_len (hTb.ok s hs)).2) hM (by decide)
      have w2 : IntKind.wrap .i64 ((a : Int) + (nx : Int)) = ((a + nx : Nat) : Int) := by rw [wrap_i64 (by omega) (by omega)]; omega
      simp [u0, u4, u8, u10, hsz, hnx, hnx', hro4, mkV, g1, g2, w2]
      exact (hR _ _).2 (by rw [hnR]; simp)
end
end Go.Sh
