/- What Read comes to. -/
import Derived.Test.YtpgipjjhapapjabShLelfN
set_option linter.unusedVariables false
set_option linter.unusedSimpArgs false
namespace Go.Sh
theorem secsR_succ (L : List UInt8) (t : Nat) (ats : List Nat) (out : List Nm) (m : Nat) : secsR L t ats out (m + 1) = secsR L t ats out m ++ [secR L t ats out (m + 1)] := by simp [secsR, List.range_succ]
section
variable {pr : Prog} (hp : Sub elfFns pr)
include hp
theorem read_in {st st' : St} {p q c t n T Tn : Nat} {L : List UInt8} {ats : List Nat} {out : List Nm} {vE vA : V} {tE tA : Nat} (hfl : st.floor = 0) (htf : st.tfloor = 0) (hro : st.row p = some [bsl true L, .d (.i .i64 (t : Nat)), vE, vA]) (hqr : st.row q = some [.ptr p 0]) (hcr : st.row c = some [.d (.i .i64 1)]) (hcp : c ≠ p) (hcq : c ≠ q)
    (hE : NL st' vE tE ((entsTo L t n).map entD)) (hA : NL st' vA tA (intC ats)) (hal : ats.length = n) (hn2 : 2 ≤ n) (hn18 : n ≤ 18) (htL : t ≤ L.length) (hL : L.length ≤ 1099511626000) (hfit : ∀ k b, ats[k]? = some b → 0 < k → b + fv (entAt L t k) 5 ≤ t)
    (hbe : ∀ k b, ats[k]? = some b → badEnt t k b (decide (k + 1 = n)) (entAt L t k) = none) (hol : out.length = n - 1) (hti : st.tips[T]? = some 0) :
    ∃ e s, cden pr (.loop [5, 9, 11, 12] false F178_elf_Read_b0) [(5, .ptr q 0), (9, .own 1 (n - 1) true (out.map .s) Tn), (11, .own 8 0 false [] T), (12, .ptr c 0)] st = some (.exit 0, e, s) ∧ e.get 11 = some (.own 8 (n - 2) (decide (0 < n - 2)) ((secsR L t ats out (n - 2)).map Sec.cells).flatten T) ∧ s.tips[T]? = some (n - 2) := by
  obtain ⟨J2, hJ2⟩ : ∃ J2 : Out → Prop, ∀ r, J2 r ↔ ∃ e s, r = (.exit 0, e, s) ∧ e.get 11 = some (.own 8 (n - 2) (decide (0 < n - 2)) ((secsR L t ats out (n - 2)).map Sec.cells).flatten T) ∧ s.tips[T]? = some (n - 2) := ⟨_, fun _ => Iff.rfl⟩
  suffices h : ∃ r, cden pr (.loop [5, 9, 11, 12] false F178_elf_Read_b0) [(5, .ptr q 0), (9, .own 1 (n - 1) true (out.map .s) Tn), (11, .own 8 0 false [] T), (12, .ptr c 0)] st = some r ∧ J2 r by
    obtain ⟨r, h1, h2⟩ := h
    obtain ⟨e, s, rfl, h3, h4⟩ := (hJ2 r).1 h2
    exact ⟨e, s, h1, h3, h4⟩
  obtain ⟨C, hC⟩ : ∃ C : Nat → List D, ∀ m, C m = ((secsR L t ats out m).map Sec.cells).flatten := ⟨_, fun _ => rfl⟩
  obtain ⟨J, hJ⟩ : ∃ J : Nat → Env → St → Prop, ∀ m e s, J m e s ↔ ∃ (k c : Nat), m + k = n - 1 ∧ 1 ≤ k ∧ e = [(5, .ptr q 0), (9, .own 1 (n - 1) true (out.map .s) Tn), (11, .own 8 (k - 1) (decide (0 < k - 1)) (C (k - 1)) T), (12, .ptr c 0)] ∧ s.floor = 0 ∧ s.tfloor = 0 ∧ s.row p = some [bsl true L, .d (.i .i64 (t : Nat)), vE, vA] ∧ s.row q = some [.ptr p 0] ∧ s.row c = some [.d (.i .i64 (k : Nat))] ∧ s.tips[T]? = some (k - 1) := ⟨_, fun _ _ _ => Iff.rfl⟩
  refine loop_j J ?_ (n := n - 2) ((hJ _ _ _).2 ⟨1, c, by omega, Nat.le_refl _, by simp [hC, secsR], hfl, htf, hro, hqr, hcr, hti⟩)
  intro m e s hj
  obtain ⟨k, c, hm, hk1, rfl, sfl, stf, sp, sq, sc, sT⟩ := (hJ _ _ _).1 hj
  have hElen := hE.len
  rw [List.length_map, show (entsTo L t n).length = n by simp [entsTo]] at hElen
  have w1 : IntKind.wrap .i64 ((n : Int) - 1) = ((n - 1 : Nat) : Int) := by rw [wrap_i64 (by omega) (by omega)]; omega
  rcases Nat.lt_or_ge k (n - 1) with h | h
  rotate_left
  · obtain rfl : k = n - 1 := by omega
    obtain rfl : m = 0 := by omega
    simp [F178_elf_Read_b0, sq, sc, sp, mkV, hElen, w1]
    refine (hJ2 _).2 ⟨_, _, rfl, ?_, by rw [sT]; rfl⟩
    have e0 : n - 1 - 1 = n - 2 := by omega
    simp [hC, e0]
  obtain ⟨b, hb⟩ : ∃ b, ats[k]? = some b := ⟨_, List.getElem?_eq_getElem (by omega)⟩
  obtain ⟨F, hF⟩ : ∃ F, F = entAt L t k := ⟨_, rfl⟩
  have hFl : F.length = 10 := by rw [hF]; exact entAt_len _ _ _
  have hEk : (entsTo L t n)[k]? = some F := by simp [entsTo, (by omega : k < n), hF]
  have hfk := hfit k b hb (by omega)
  have hfv := fun i hi => fv_fit (hbe k b hb) (by omega) (i := i) hi
  rw [← hF] at hfk hfv
  have hnum := fun i hi hx => den_num hp (st := s) (p := p) (q := q) (c := c) (t := t) (k := k) (i := i) sq sc sp hE hEk hFl hi hx
  have n1 : den pr 196 [.d (.i .i64 1), .ptr q 0, .ptr c 0] s = some (.d (.i .i64 (fv F 1 : Nat)), s) := hnum 1 (by decide) (hfv 1 (by simp))
  have n2 : den pr 196 [.d (.i .i64 2), .ptr q 0, .ptr c 0] s = some (.d (.i .i64 (fv F 2 : Nat)), s) := hnum 2 (by decide) (hfv 2 (by simp))
  have n6 : den pr 196 [.d (.i .i64 6), .ptr q 0, .ptr c 0] s = some (.d (.i .i64 (fv F 6 : Nat)), s) := hnum 6 (by decide) (hfv 6 (by simp))
  have n7 : den pr 196 [.d (.i .i64 7), .ptr q 0, .ptr c 0] s = some (.d (.i .i64 (fv F 7 : Nat)), s) := hnum 7 (by decide) (hfv 7 (by simp))
  have n8 : den pr 196 [.d (.i .i64 8), .ptr q 0, .ptr c 0] s = some (.d (.i .i64 (fv F 8 : Nat)), s) := hnum 8 (by decide) (hfv 8 (by simp))
  have n9 : den pr 196 [.d (.i .i64 9), .ptr q 0, .ptr c 0] s = some (.d (.i .i64 (fv F 9 : Nat)), s) := hnum 9 (by decide) (hfv 9 (by simp))
  have hda := den_data hp (st := s) sp hE hA hEk hb hFl (by omega) (by omega)
  have hgd : ats.getD k 0 = b := by rw [List.getD_eq_getElem?_getD, hb]; rfl
  obtain ⟨X, hX⟩ : ∃ X, X = (L.take (b + fv F 5)).drop b := ⟨_, rfl⟩
  rw [← hX] at hda
  have hcl : ∀ st, den pr 198 [.d (.sl X.length true (byteCells X))] st = some (.d (.sl X.length true (byteCells X)), st) := fun st => den_clone9 hp (st := st) X (by rw [hX, List.length_drop, List.length_take]; omega)
  obtain ⟨nm, hnm⟩ : ∃ nm, out[k - 1]? = some nm := ⟨_, List.getElem?_eq_getElem (by omega)⟩
  have w2 : IntKind.wrap .i64 ((k : Int) - 1) = ((k - 1 : Nat) : Int) := by rw [wrap_i64 (by omega) (by omega)]; omega
  have hil : k - 1 < (out.map D.s).length := by simp; omega
  have hnd : (out.map D.s).drop (k - 1) = .s nm :: (out.map D.s).drop (k - 1 + 1) := by rw [List.drop_eq_getElem_cons hil]; simp [(List.getElem?_eq_some_iff.1 hnm).2]
  have hia : iaddrV 1 (.own 1 (n - 1) true (out.map .s) Tn) (.d (.i .i64 ((k - 1 : Nat) : Int))) = some (.ep ((out.map D.s).drop (k - 1))) := by simp [iaddrV]; omega
  have hld : ∀ s, loadV 1 false s (.ep ((out.map D.s).drop (k - 1))) = some (.d (.s nm)) := fun s => by rw [hnd]; simp [loadV, mkV, ofDs]
  have hsec : secR L t ats out k = ⟨nm, fv F 1, fv F 2, fv F 6, fv F 7, fv F 8, fv F 9, X, true⟩ := by
    have : out.getD (k - 1) [] = nm := by rw [List.getD_eq_getElem?_getD, hnm]; rfl
    unfold secR dataAt
    rw [this, hgd, ← hF, hX]
  have hCk : C k = C (k - 1) ++ (Sec.cells ⟨nm, fv F 1, fv F 2, fv F 6, fv F 7, fv F 8, fv F 9, X, true⟩) := by
    rw [hC, hC, ← hsec]
    conv => lhs; rw [show k = k - 1 + 1 by omega, secsR_succ]
    rw [show k - 1 + 1 = k by omega]
    simp
  have hCl : (C (k - 1)).length = (k - 1) * 8 := by rw [hC, secC_len]; simp [secsR]
  have hap : appV 8 88 s (.own 8 (k - 1) (decide (0 < k - 1)) (C (k - 1)) T) (.d (.sl 1 true (Sec.cells ⟨nm, fv F 1, fv F 2, fv F 6, fv F 7, fv F 8, fv F 9, X, true⟩))) = some (.own 8 (k - 1 + 1) true (C k) T, { s with tips := s.tips.set T (k - 1 + 1) }) := by
    have htf' : s.tfloor ≤ T := by omega
    have h1 : (k - 1 + 1) * 88 ≤ 140737488355328 := by omega
    have h2 : k - 1 + 1 ≤ 140737488355328 := by omega
    simp only [appV, vw, sT]
    rw [if_pos (by simp [htf', hCl, h1, h2, Sec.cells]), hCk]
    simp
  obtain ⟨s1, hs1⟩ : ∃ s1, s1 = ({ s with tips := s.tips.set T (k - 1 + 1) } : St) := ⟨_, rfl⟩
  rw [← hs1] at hap
  have hh1 : s1.heap = s.heap := by rw [hs1]
  have r1 : s1.row c = some [.d (.i .i64 (k : Nat))] := (row_of_heap (by rw [hh1])).trans sc
  have rp1 := (row_of_heap (a := s) (b := s1) (i := p) (by rw [hh1])).trans sp
  have rq1 := (row_of_heap (a := s) (b := s1) (i := q) (by rw [hh1])).trans sq
  have hfl1 : s1.floor ≤ s1.heap.length := by rw [hs1]; simp [sfl]
  have h1 : IntKind.wrap .i64 ((k : Int) + 1) = ((k + 1 : Nat) : Int) := by rw [wrap_i64 (by omega) (by omega)]; omega
  have hlt : (k : Int) < ((n - 1 : Nat) : Int) := by omega
  simp only [Sec.cells] at hap
  have hgo : ∃ m0, m0 < m ∧ J m0 [(5, .ptr q 0), (9, .own 1 (n - 1) true (out.map .s) Tn), (11, .own 8 (k - 1 + 1) true (C k) T), (12, .ptr s1.heap.length 0)] (s1.push (.row [.d (.i .i64 ((k + 1 : Nat) : Int))])) := by
    refine ⟨m - 1, by omega, (hJ _ _ _).2 ⟨k + 1, s1.heap.length, by omega, by omega, ?_, by rw [hs1]; exact sfl, by rw [hs1]; exact stf, ?_, ?_, row_push_new rfl, ?_⟩⟩
    · rw [show k + 1 - 1 = k by omega, show k - 1 + 1 = k by omega]
      simp
      omega
    · rw [row_push_old (by rw [hh1]; exact row_lt sp)]; exact rp1
    · rw [row_push_old (by rw [hh1]; exact row_lt sq)]; exact rq1
    · have := (List.getElem?_eq_some_iff.1 sT).1
      rw [push_tips, hs1]
      simp [this]
      omega
  simp [F178_elf_Read_b0, sq, sc, sp, mkV, hElen, w1, hlt, w2, hia, hld, n1, n2, n6, n7, n8, n9, hda, hcl, fillV, reps, lay, ofDs, toDs, toD, bsl, n1, n2, n6, n7, n8, n9, hap, r1, hfl1, h1]
  simpa using hgo
variable (hs : Sub strsFns pr) (hq : SubP strsPrims pr) {st : St}
omit hp in
def rdV (L : List UInt8) : V := match readF L with
  | .inl (q, e) => .tup [.d (.sl 0 false []), .d (.i .i64 (q : Nat)), .d (.i .i64 e)]
  | .inr ss => .tup [secV ss (decide (0 < ss.length)), .d (.i .i64 0), .d (.i .i64 0)]
include hs hq
theorem den_Read9 {v : V} {L : List UInt8} {nz : Bool} (hcv : close1 v = some (bsl nz L)) (hz : nz = false → L = []) (hL : L.length ≤ 1099511626000) : den pr 178 [v] st = some (rdV L, st) := by
  refine den_shut (hp.at 18 rfl) rfl rfl (by simp [hcv]; rfl) ?_
  by_cases h64 : L.length < 64
  · have h64' : (L.length : Int) < 64 := by omega
    have hr : rdV L = .tup [.d (.sl 0 false []), .d (.i .i64 (L.length : Nat)), .d (.i .i64 90)] := by unfold rdV readF; rw [if_pos h64]
    simp [F178_elf_Read, h64', hr]
  have h64' : ¬ (L.length : Int) < 64 := by omega
  have hnz : nz = true := by
    cases nz with
    | true => rfl
    | false => rw [hz rfl] at h64; simp at h64
  subst hnz
  obtain ⟨s1, hs1⟩ : ∃ s1, s1 = s0 [.row [bsl true L, .d (.i .i64 0), .d (.sl 0 false []), .d (.sl 0 false [])], .row [.ptr 0 0]] [] 0 0 := ⟨_, rfl⟩
  have hro : s1.row 0 = some [bsl true L, .d (.i .i64 0), .d (.sl 0 false []), .d (.sl 0 false [])] := by rw [hs1]; rfl
  have hqr : s1.row 1 = some [.ptr 0 0] := by rw [hs1]; rfl
  have hhd := den_head hp hro (by rw [hs1]; rfl) (by omega) (by omega)
  have hfl1 : s1.floor = 0 := by rw [hs1]; rfl
  have htf1 : s1.tfloor = 0 := by rw [hs1]; rfl
  have hpc : ∀ a b, (V.ptr a b).cs = [V.ptr a b] := fun _ _ => rfl
  obtain ⟨fb, hfb⟩ : ∃ fb, fb = bsl true L := ⟨_, rfl⟩
  have hlenb : lenV fb = some L.length := by rw [hfb]; rfl
  have hokb : V.ok1 fb = true := by rw [hfb]; rfl
  have hcsb : V.cs fb = [fb] := by rw [hfb]; rfl
  rw [← hfb] at hs1
  cases hP : headP L with
  | some i =>
    rw [hP] at hhd
    simp only at hhd
    have hr : rdV L = .tup [.d (.sl 0 false []), .d (.i .i64 (i : Nat)), .d (.i .i64 91)] := by unfold rdV readF; rw [if_neg h64, hP]
    rw [hr]
    have hge : (0 : Int) ≤ i := by omega
    simp [F178_elf_Read, hlenb, h64', fillV, lay, reps, ofDs, ← hfb, hokb, hcsb, hpc, ← hs1, hqr, mkV, hhd, hge]
  | none =>
    obtain ⟨m1, m2, m3, m4, m5, m6, m7, m8, m9⟩ := headP_none hP
    rw [hP, m6] at hhd
    simp only at hhd
    obtain ⟨n, hn⟩ : ∃ n, n = hv L 14 := ⟨_, rfl⟩
    obtain ⟨t, ht⟩ : ∃ t, t = tabP L := ⟨_, rfl⟩
    have hrF : readF L = match fldsM L t n n 0 64 with
      | (some q, _) => .inl (q, 92)
      | (none, ats) => match padM L t ats (n - 1) 1 with
        | some q => .inl (q, 93)
        | none => match namesR L t n ats with
          | .inl b => .inl (b, 92)
          | .inr out => .inr (secsR L t ats out (n - 2)) := by 
      unfold readF
      simp only [if_neg h64, hP, ht, hn]
      generalize fldsM L (tabP L) (hv L 14) (hv L 14) 0 64 = X
      obtain ⟨o, ats⟩ := X
      cases o with
      | some q => rfl
      | none =>
        simp only
        cases padM L (tabP L) ats (hv L 14 - 1) 1 with
        | some q => rfl
        | none =>
          simp only
          cases namesR L (tabP L) (hv L 14) ats <;> rfl
    rw [← hn] at m1 m2 m3
    rw [← ht] at m3 m4 m5 hhd
    obtain ⟨s2, hs2⟩ : ∃ s2, s2 = s1.put 0 [bsl true L, .d (.i .i64 (t : Nat)), .d (.sl 0 false []), .d (.sl 0 false [])] := ⟨_, rfl⟩
    rw [← hs2] at hhd
    have hro2 : s2.row 0 = some [bsl true L, .d (.i .i64 (t : Nat)), .d (.sl 0 false []), .d (.sl 0 false [])] := by rw [hs2]; exact row_put_eq (row_lt hro)
    have hqr2 : s2.row 1 = some [.ptr 0 0] := by rw [hs2, row_put_ne (by decide)]; exact hqr
    have hfl2 : s2.floor = 0 := by rw [hs2]; exact hfl1
    have htf2 : s2.tfloor = 0 := by rw [hs2]; exact htf1
    obtain ⟨fv', s3, f1, f2⟩ := den_fields hp (st := s2) (p := 0) (t := t) (n := n) (L := L) hro2 hfl2 htf2 (by omega) (by omega) m5 m4 (by omega)
    cases hfm : fldsM L t n n 0 64 with
    | mk o ats =>
    rw [hfm] at f2 hrF
    cases o with
    | some q =>
      simp only at f2 hrF
      subst f2
      have hr : rdV L = .tup [.d (.sl 0 false []), .d (.i .i64 (q : Nat)), .d (.i .i64 92)] := by unfold rdV; rw [hrF]
      have hge : (0 : Int) ≤ q := by omega
      simp [F178_elf_Read, hlenb, h64', fillV, lay, reps, ofDs, ← hfb, hokb, hcsb, hpc, ← hs1, hqr, mkV, hhd, hqr2, f1, hr, hge]
    | none =>
    simp only at f2 hrF
    obtain ⟨rfl, k3, vE, vA, tE, tA, hro3, hE, hA, hal⟩ := f2
    have hqr3 : s3.row 1 = some [.ptr 0 0] := (row_of_heap (k3.heap 1 (row_lt hqr2) (by decide))).trans hqr2
    obtain ⟨_, hft⟩ := fldsM_fit m5 hfm m4 rfl
    have hbe := fldsM_ok hfm
    have hfit : ∀ k b, ats[k]? = some b → 0 < k → b + fv (entAt L t k) 5 ≤ t := fun k b hb hk => by
      have := (hft k b hb).2.2
      rw [Nat.zero_add] at this
      exact this hk
    have hbe' : ∀ k b, ats[k]? = some b → badEnt t k b (decide (k + 1 = n)) (entAt L t k) = none := fun k b hb => by
      have := hbe k b hb
      rw [Nat.zero_add] at this
      exact this
    have hpd := den_padding hp (st := s3) (n := n) hro3 hE hA hal (by omega) (by omega) m5 (by omega) (by omega) hfit
    cases hpm : padM L t ats (n - 1) 1 with
    | some q =>
      rw [hpm] at hpd hrF
      simp only at hpd hrF
      have hr : rdV L = .tup [.d (.sl 0 false []), .d (.i .i64 (q : Nat)), .d (.i .i64 93)] := by unfold rdV; rw [hrF]
      have hge : (0 : Int) ≤ q := by omega
      simp [F178_elf_Read, hlenb, h64', fillV, lay, reps, ofDs, ← hfb, hokb, hcsb, hpc, ← hs1, hqr, mkV, hhd, hqr2, f1, hr, hge, hqr3, hpd]
    | none =>
    rw [hpm] at hpd hrF
    simp only at hpd hrF
    have hfl3 : s3.floor = 0 := k3.floor.trans hfl2
    have htf3 : s3.tfloor = 0 := k3.tfloor.trans htf2
    obtain ⟨nv, s4, g1, g2⟩ := den_names hp hs hq (st := s3) (p := 0) (t := t) (n := n) (L := L) hfl3 htf3 hro3 hE hA hal (by omega) (by omega) (by omega) (by omega) hfit
    cases hnr : namesR L t n ats with
    | inl b =>
      rw [hnr] at g2 hrF
      simp only at g2 hrF
      subst g2
      have hr : rdV L = .tup [.d (.sl 0 false []), .d (.i .i64 (b : Nat)), .d (.i .i64 92)] := by unfold rdV; rw [hrF]
      have hge : (0 : Int) ≤ b := by omega
      simp [F178_elf_Read, hlenb, h64', fillV, lay, reps, ofDs, ← hfb, hokb, hcsb, hpc, ← hs1, hqr, mkV, hhd, hqr2, f1, hr, hge, hqr3, hpd, g1]
    | inr out =>
    rw [hnr] at g2 hrF
    simp only at g2 hrF
    obtain ⟨Tn, rfl, hol, k4⟩ := g2
    have hro4 := (row_of_heap (k4.heap 0 (row_lt hro3) (fun h => h))).trans hro3
    have hqr4 := (row_of_heap (k4.heap 1 (row_lt hqr3) (fun h => h))).trans hqr3
    have h14 := row_lt hqr4
    obtain ⟨s5, hs5⟩ : ∃ s5, s5 = ({ s4 with tips := s4.tips ++ [0] } : St) := ⟨_, rfl⟩
    have hh5 : s5.heap = s4.heap := by rw [hs5]
    have hfl5 : s5.floor ≤ s5.heap.length := by rw [hs5]; simp [k4.floor.trans hfl3]
    obtain ⟨s6, hs6⟩ : ∃ s6, s6 = s5.push (.row [.d (.i .i64 1)]) := ⟨_, rfl⟩
    have hro6 := (show s6.row 0 = s4.row 0 by rw [hs6, row_push_old (by rw [hh5]; omega)]; exact row_of_heap (by rw [hh5])).trans hro4
    have hqr6 := (show s6.row 1 = s4.row 1 by rw [hs6, row_push_old (by rw [hh5]; omega)]; exact row_of_heap (by rw [hh5])).trans hqr4
    have hcr6 : s6.row s5.heap.length = some [.d (.i .i64 1)] := by rw [hs6]; exact row_push_new rfl
    obtain ⟨e, s7, q1, q2, q3⟩ := read_in hp (st := s6) (p := 0) (q := 1) (c := s5.heap.length) (t := t) (n := n) (T := s4.tips.length) (Tn := Tn) (L := L) (ats := ats) (out := out) (by rw [hs6, hs5]; exact k4.floor.trans hfl3) (by rw [hs6, hs5]; exact k4.tfloor.trans htf3) hro6 hqr6 hcr6 (by rw [hh5]; omega) (by rw [hh5]; omega) hE hA hal (by omega) (by omega) (by omega) (by omega) hfit hbe' hol (by rw [hs6, hs5]; simp)
    have hr : rdV L = .tup [secV (secsR L t ats out (n - 2)) (decide (0 < n - 2)), .d (.i .i64 0), .d (.i .i64 0)] := by unfold rdV; rw [hrF]; simp [secsR]
    have hsl : (secsR L t ats out (n - 2)).length = n - 2 := by simp [secsR]
    simp [F178_elf_Read, hlenb, h64', fillV, lay, reps, ofDs, ← hfb, hokb, hcsb, hpc, ← hs1, hqr, mkV, hhd, hqr2, f1, hr, hqr3, hpd, g1, ← hs5, hfl5, ← hs6, q1, q2, secV, hsl]
end
end Go.Sh
