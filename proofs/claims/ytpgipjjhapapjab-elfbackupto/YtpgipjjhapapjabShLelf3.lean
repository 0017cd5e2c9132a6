/- Sections read: the names. -/
import Derived.Test.YtpgipjjhapapjabShLelf2
set_option linter.unusedVariables false
set_option linter.unusedSimpArgs false
namespace Go.Sh
/-- Places that were seen, and where. -/
def entsI (l : List (Nat × Nat)) : List (D × V) := l.map fun p => (.i .i64 (p.1 : Int), .d (.i .i64 (p.2 : Int)))
def seenI (l : List (Nat × Nat)) (x : Nat) : Bool := l.any fun p => p.1 == x
theorem findE_entsI (x : Nat) : ∀ l : List (Nat × Nat), ∃ o, findE (.i .i64 (x : Int)) (entsI l) = some o ∧ o.isSome = seenI l x ∧ ∀ v, o = some v → ∃ k : Nat, v = .d (.i .i64 (k : Int))
  | [] => ⟨none, rfl, rfl, fun v h => by cases h⟩
  | (p, k) :: r => by
    by_cases h : p = x
    · subst h
      exact ⟨some (.d (.i .i64 (k : Int))), by simp [entsI, findE, eqD], by simp [seenI], fun v hv => ⟨k, by cases hv; rfl⟩⟩
    · obtain ⟨o, h1, h2, h3⟩ := findE_entsI x r
      have h' : ((x : Int) == (p : Int)) = false := by simpa using fun e : (x : Int) = p => h (by omega)
      refine ⟨o, ?_, ?_, h3⟩
      · simp only [entsI, List.map_cons, findE, eqD, if_true, h'] at h1 ⊢
        exact h1
      · rw [h2]
        simp [seenI, h]
theorem setE_entsI (x k : Nat) : ∀ l : List (Nat × Nat), seenI l x = false → setE (.i .i64 (x : Int)) (.d (.i .i64 (k : Int))) (entsI l) = some (entsI (l ++ [(x, k)]))
  | [], _ => rfl
  | (p, j) :: r, h => by
    simp only [seenI, List.any_cons, Bool.or_eq_false_iff, beq_eq_false_iff_ne] at h
    have h' : ((x : Int) == (p : Int)) = false := by simpa using fun e : (x : Int) = p => h.1 (by omega)
    have := setE_entsI x k r h.2
    simp only [entsI, List.map_cons, List.cons_append, setE, eqD, if_true, h'] at this ⊢
    rw [this]
    rfl
def nmOf (ns : List Nm) (pl : Nat) : Option Nm := if pl = 0 then none else nmAt pl 1 ns
/-- The names of the entries from k on: where it ends ill, or the names and where the next would stand. -/
def namesM (ns : List Nm) (L : List UInt8) (t n : Nat) : Nat → Nat → List (Nat × Nat) → Nat → List Nm → Nat ⊕ (List Nm × Nat)
  | 0, _, _, nx, out => .inr (out, nx)
  | m + 1, k, sl, nx, out => match nmOf ns (fv (entAt L t k) 0) with
    | none => .inl (t + 64 * k)
    | some s => if (seenI sl (fv (entAt L t k) 0) = false ∧ fv (entAt L t k) 0 ≠ nx) ∨ (k + 1 = n ∧ s ≠ ownNm) then .inl (t + 64 * k) else
      if seenI sl (fv (entAt L t k) 0) = true then namesM ns L t n m (k + 1) sl nx (out ++ [s]) else namesM ns L t n m (k + 1) (sl ++ [(fv (entAt L t k) 0, k)]) (fv (entAt L t k) 0 + s.length + 1) (out ++ [s])
theorem getD_lt (L : List UInt8) : getN (L.take 4) < 4294967296 := Nat.lt_of_lt_of_le (getN_lt _) (Nat.pow_le_pow_right (by decide) (by rw [List.length_take]; omega) : 256 ^ _ ≤ 256 ^ 4)
theorem fv0_lt (L : List UInt8) (t k : Nat) : fv (entAt L t k) 0 < 4294967296 := by
  have h : (entAt L t k)[0]? = some (4, getN (((((L.take (t + 64 * k + 64)).drop (t + 64 * k)).drop 0)).take 4)) := toldF_get (ws := entW) rfl
  unfold fv
  rw [List.getD_eq_getElem?_getD, h]
  exact getD_lt _
section
variable {pr : Prog} (hp : Sub elfFns pr) (hs : Sub strsFns pr)
include hs
theorem names_in {st st' : St} {p q m tn tp mid T t n : Nat} {L : List UInt8} {ns : List Nm} {vb vE vA : V} {tE : Nat} (hro : st.row p = some [vb, .d (.i .i64 (t : Nat)), vE, vA]) (hE : NL st' vE tE ((entsTo L t n).map entD)) (hT : Tbl st q m tn tp ns) (hend : endAt 1 ns ≤ 1099511627776)
    (hmap : st.mapOf mid = some []) (hti : st.tips[T]? = some 0) (hpm : p ≠ mid) (hqm : q ≠ mid) (hmm : m ≠ mid) (htt : ns ≠ [] → tn ≠ T ∧ tp ≠ T) (hn2 : 2 ≤ n) (hn18 : n ≤ 18) (ht : t ≤ 1099511627776) :
    ∃ r, cden pr (.loop [0, 4, 5, 8, 9, 10, 11] false F194_elf_file_names_b0) [(0, .ptr p 0), (4, .d (.i .i64 ((n - 1 : Nat) : Int))), (5, .ptr q 0), (8, .own 1 0 false [] T), (9, .map mid), (10, .d (.i .i64 1)), (11, .d (.i .i64 1))] st = some r ∧
      ((∃ e s out nx, r = (.exit 0, e, s) ∧ e.get 0 = some (.ptr p 0) ∧ e.get 4 = some (.d (.i .i64 ((n - 1 : Nat) : Int))) ∧ e.get 8 = some (.own 1 (n - 1) true (out.map .s) T) ∧ e.get 10 = some (.d (.i .i64 (nx : Nat))) ∧ s.tips[T]? = some (n - 1) ∧ out.length = n - 1 ∧ Kp st s (fun i => i = mid) (fun u => u = T) ∧ namesM ns L t n (n - 1) 1 [] 1 [] = .inr (out, nx)) ∨
        ∃ e s b, r = (.ret, e, s) ∧ e.get 2 = some (.d (.sl 0 false [])) ∧ e.get 3 = some (.d (.i .i64 (b : Nat))) ∧ namesM ns L t n (n - 1) 1 [] 1 [] = .inl b) := by
  obtain ⟨J2, hJ2⟩ : ∃ J2 : Out → Prop, ∀ r, J2 r ↔ ((∃ e s out nx, r = (.exit 0, e, s) ∧ e.get 0 = some (.ptr p 0) ∧ e.get 4 = some (.d (.i .i64 ((n - 1 : Nat) : Int))) ∧ e.get 8 = some (.own 1 (n - 1) true (out.map .s) T) ∧ e.get 10 = some (.d (.i .i64 (nx : Nat))) ∧ s.tips[T]? = some (n - 1) ∧ out.length = n - 1 ∧ Kp st s (fun i => i = mid) (fun u => u = T) ∧ namesM ns L t n (n - 1) 1 [] 1 [] = .inr (out, nx)) ∨
        ∃ e s b, r = (.ret, e, s) ∧ e.get 2 = some (.d (.sl 0 false [])) ∧ e.get 3 = some (.d (.i .i64 (b : Nat))) ∧ namesM ns L t n (n - 1) 1 [] 1 [] = .inl b) := ⟨_, fun _ => Iff.rfl⟩
  suffices h : ∃ r, cden pr (.loop [0, 4, 5, 8, 9, 10, 11] false F194_elf_file_names_b0) [(0, .ptr p 0), (4, .d (.i .i64 ((n - 1 : Nat) : Int))), (5, .ptr q 0), (8, .own 1 0 false [] T), (9, .map mid), (10, .d (.i .i64 1)), (11, .d (.i .i64 1))] st = some r ∧ J2 r by
    obtain ⟨r, h1, h2⟩ := h
    exact ⟨r, h1, (hJ2 r).1 h2⟩
  obtain ⟨J, hJ⟩ : ∃ J : Nat → Env → St → Prop, ∀ m' e s, J m' e s ↔ ∃ (k : Nat) (sl : List (Nat × Nat)) (nx : Nat) (out : List Nm), m' + k = n ∧ 1 ≤ k ∧ e = [(0, .ptr p 0), (4, .d (.i .i64 ((n - 1 : Nat) : Int))), (5, .ptr q 0), (8, .own 1 out.length (decide (0 < out.length)) (out.map .s) T), (9, .map mid), (10, .d (.i .i64 (nx : Nat))), (11, .d (.i .i64 (k : Nat)))] ∧
      Kp st s (fun i => i = mid) (fun u => u = T) ∧ s.mapOf mid = some (entsI sl) ∧ s.tips[T]? = some out.length ∧ out.length = k - 1 ∧ namesM ns L t n (n - 1) 1 [] 1 [] = namesM ns L t n m' k sl nx out := ⟨_, fun _ _ _ => Iff.rfl⟩
  refine loop_j J ?_ (n := n - 1) ((hJ _ _ _).2 ⟨1, [], 1, [], by omega, Nat.le_refl _, by simp, .refl _ _ _, hmap, hti, rfl, rfl⟩)
  intro m' e s hj
  obtain ⟨k, sl, nx, out, hm', hk1, rfl, hkp, hmp, hT1, hol, hnm⟩ := (hJ _ _ _).1 hj
  have hro' : s.row p = some [vb, .d (.i .i64 (t : Nat)), vE, vA] := (row_of_heap (hkp.heap p (row_lt hro) hpm)).trans hro
  have hTb : Tbl s q m tn tp ns := hT.keep hkp hqm hmm htt
  rcases Nat.lt_or_ge k n with h | h
  rotate_left
  · obtain rfl : k = n := by omega
    obtain rfl : m' = 0 := by omega
    have hgt : ¬ (k : Int) ≤ ((k - 1 : Nat) : Int) := by omega
    have hnz : decide (0 < out.length) = true := by simp; omega
    simp [F194_elf_file_names_b0, hgt]
    refine (hJ2 _).2 (.inl ⟨_, _, out, nx, rfl, by simp, by simp, by simp [hol]; omega, by simp, by rw [hT1, hol], hol, hkp, ?_⟩)
    rw [hnm]
    rfl
  obtain ⟨m1, rfl⟩ : ∃ m1, m' = m1 + 1 := ⟨m' - 1, by omega⟩
  obtain ⟨F, hF⟩ : ∃ F, F = entAt L t k := ⟨_, rfl⟩
  obtain ⟨pl, hpl⟩ : ∃ pl, pl = fv F 0 := ⟨_, rfl⟩
  have hpl32 : pl < 4294967296 := by rw [hpl, hF]; exact fv0_lt _ _ _
  have hFl : F.length = 10 := by rw [hF]; exact entAt_len _ _ _
  obtain ⟨g1, g2⟩ := hE.get (i := k) (x := entD F) (by simp [entsTo, h, hF]) (k := .i64)
  obtain ⟨fa, f1, fb, f2, f3⟩ := fv_load hFl (i := 0) (by decide)
  rw [← hpl] at f3
  have f1' : iaddrV 2 (.d (entD F)) (.d (.i .i64 0)) = some fa := f1
  have w1 : IntKind.wrap .i64 (pl : Int) = pl := wrap_i64 (by omega) (by omega)
  have hle : (k : Int) ≤ ((n - 1 : Nat) : Int) := by omega
  have h1 : IntKind.wrap .i64 ((k : Int) + 1) = ((k + 1 : Nat) : Int) := by rw [wrap_i64 (by omega) (by omega)]; omega
  have w2 : IntKind.wrap .i64 (64 * (k : Int)) = 64 * (k : Int) := wrap_i64 (by omega) (by omega)
  have w3 : IntKind.wrap .i64 ((t : Int) + 64 * (k : Int)) = ((t + 64 * k : Nat) : Int) := by rw [wrap_i64 (by omega) (by omega)]; omega
  have hAt := den_At hs hTb (pl : Int) hend
  obtain ⟨o, o1, o2, o3⟩ := findE_entsI pl sl
  simp only [namesM, ← hF, ← hpl] at hnm
  have hatI : atI (pl : Int) ns = nmAt pl 1 ns := by
    unfold atI
    rw [if_neg (by omega), Int.toNat_natCast]
  rw [hatI] at hAt
  have hret : ∀ e s, e.get 2 = some (.d (.sl 0 false [])) → e.get 3 = some (.d (.i .i64 ((t + 64 * k : Nat) : Int))) → namesM ns L t n (n - 1) 1 [] 1 [] = .inl (t + 64 * k) → J2 (.ret, e, s) := fun e s h2 h3 h4 => (hJ2 _).2 (.inr ⟨e, s, _, rfl, h2, h3, h4⟩)
  obtain ⟨rt, hrt⟩ : ∃ rt : Int, rt = ((t + 64 * k : Nat) : Int) := ⟨_, rfl⟩
  rw [← hrt] at hret w3
  have hlk : lookV false true (.d (.i .i64 0)) s (.map mid) (.d (.i .i64 (pl : Int))) = some (.tup [o.getD (.d (.i .i64 0)), .d (.b (seenI sl pl))]) := by
    simp [lookV, keyOk, hmp, o1, lookOut, o2]
  by_cases hp0 : pl = 0
  · have hno : nmOf ns pl = none := by simp [nmOf, hp0]
    rw [hno] at hnm
    have hAt0 : den pr 144 [.ptr q 0, .d (.i .i64 (pl : Int))] s = some (.tup [.d (.s []), .d (.i .i64 0)], s) := by rw [hAt]; simp [hp0]
    simp [F194_elf_file_names_b0, hle, hro', mkV, g1, g2, f1', f2, f3, w1, hAt0, zeroV, hlk, w2, w3]
    exact hret _ _ (by simp) (by simp) hnm
  have hp0' : ¬ (pl : Int) = 0 := by omega
  cases hna : nmAt pl 1 ns with
  | none =>
    have hno : nmOf ns pl = none := by simp [nmOf, hp0, hna]
    rw [hno] at hnm
    have hAt0 : den pr 144 [.ptr q 0, .d (.i .i64 (pl : Int))] s = some (.tup [.d (.s []), .d (.i .i64 81)], s) := by rw [hAt, hna]; simp [hp0', hp0]
    simp [F194_elf_file_names_b0, hle, hro', mkV, g1, g2, f1', f2, f3, w1, hAt0, zeroV, hlk, w2, w3]
    exact hret _ _ (by simp) (by simp) hnm
  | some x =>
    have hno : nmOf ns pl = some x := by simp [nmOf, hp0, hna]
    rw [hno] at hnm
    simp only at hnm
    obtain ⟨ix, hx1, _⟩ := nmAt_some hna
    have hxl := okNm_len (hTb.ok x (List.mem_of_getElem? hx1))
    have hxe : ¬ x = [] := fun e => by rw [e] at hxl; simp at hxl
    have hAt0 : den pr 144 [.ptr q 0, .d (.i .i64 (pl : Int))] s = some (.tup [.d (.s x), .d (.i .i64 0)], s) := by rw [hAt, hna]; simp [hp0', hp0]
    obtain ⟨kn, hkn⟩ : ∃ kn, kn = seenI sl pl := ⟨_, rfl⟩
    rw [← hkn] at hlk hnm
    have hxb : (x == []) = false := by simpa using hxe
    have hfk : ((k : Int) = ((n - 1 : Nat) : Int)) ↔ k + 1 = n := by omega
    -- the rest of a round that goes on
    have happ : ∀ s2 : St, s2.tips = s.tips → s2.tfloor = s.tfloor → appV 1 16 s2 (.own 1 out.length (decide (0 < out.length)) (out.map .s) T) (.d (.sl 1 true [.s x])) = some (.own 1 (out.length + 1) true ((out ++ [x]).map .s) T, { s2 with tips := s2.tips.set T (out.length + 1) }) := fun s2 e1 e2 => by
      have htf : s2.tfloor ≤ T := by rw [e2, hTb.tf]; omega
      have hb : (out.length + 1) * 16 ≤ 140737488355328 := by omega
      have hb2 : out.length + 1 ≤ 140737488355328 := by omega
      have ht2 : s2.tips[T]? = some out.length := by rw [e1]; exact hT1
      simp only [appV, vw, ht2]
      simp [htf, hb, hb2]
    have hTl : T < s.tips.length := (List.getElem?_eq_some_iff.1 hT1).1
    have go : ∀ s2 sl2 nx2, Kp st s2 (fun i => i = mid) (fun u => u = T) → s2.tips = s.tips → s2.mapOf mid = some (entsI sl2) → namesM ns L t n (n - 1) 1 [] 1 [] = namesM ns L t n m1 (k + 1) sl2 nx2 (out ++ [x]) →
        ∃ m0, m0 < m1 + 1 ∧ J m0 [(0, .ptr p 0), (4, .d (.i .i64 ((n - 1 : Nat) : Int))), (5, .ptr q 0), (8, .own 1 (out.length + 1) true ((out ++ [x]).map .s) T), (9, .map mid), (10, .d (.i .i64 (nx2 : Nat))), (11, .d (.i .i64 ((k + 1 : Nat) : Int)))] { s2 with tips := s2.tips.set T (out.length + 1) } := fun s2 sl2 nx2 c1 c2 c3 c4 => by
      refine ⟨m1, by omega, (hJ _ _ _).2 ⟨k + 1, sl2, nx2, out ++ [x], by omega, by omega, by simp, ?_, c3, ?_, by simp; omega, c4⟩⟩
      · refine c1.trans ⟨rfl, rfl, Nat.le_refl _, by simp, fun _ _ _ => rfl, fun u hu hne => ?_⟩
        simp only [List.getElem?_set]
        rw [if_neg fun e => hne e.symm]
      · have : T < s2.tips.length := by rw [c2]; exact hTl
        simp [this]
    have hmpid : mid < s.heap.length := map_lt hmp
    have hbad2 : k + 1 = n → x ≠ ownNm → (kn = true ∨ pl = nx) → JStep [0, 4, 5, 8, 9, 10, 11] (m1 + 1) J J2 (Option.map (cutR s false) (cden pr F194_elf_file_names_b0 [(0, .ptr p 0), (4, .d (.i .i64 ((n - 1 : Nat) : Int))), (5, .ptr q 0), (8, .own 1 out.length (decide (0 < out.length)) (out.map .s) T), (9, .map mid), (10, .d (.i .i64 (nx : Nat))), (11, .d (.i .i64 (k : Nat)))] (enterR s false))) := by
      intro hf hxo hkx
      have hf1 := eq_true (hfk.2 hf)
      have hf2 := eq_true (show k = n - 1 by omega)
      have hxo' : (x == [46, 115, 104, 115, 116, 114, 116, 97, 98]) = false := by simpa [ownNm] using hxo
      have hxo2 : ¬ x = [46, 115, 104, 115, 116, 114, 116, 97, 98] := hxo
      have hnm' : namesM ns L t n (n - 1) 1 [] 1 [] = .inl (t + 64 * k) := by rw [hnm]; simp only [if_pos (Or.inr ⟨hf, hxo⟩ : (kn = false ∧ pl ≠ nx) ∨ (k + 1 = n ∧ x ≠ ownNm))]
      rcases hkx with rfl | rfl
      · simp [F194_elf_file_names_b0, hle, hro', mkV, g1, g2, f1', f2, f3, w1, hAt0, zeroV, hlk, hxb, hxe, hf1, hf2, hxo', hxo2, w2, w3]
        exact hret _ _ (by simp) (by simp) hnm'
      · cases kn <;> simp [F194_elf_file_names_b0, hle, hro', mkV, g1, g2, f1', f2, f3, w1, hAt0, zeroV, hlk, hxb, hxe, hf1, hf2, hxo', hxo2, w2, w3]
        · exact hret _ _ (by simp) (by simp) hnm'
        · exact hret _ _ (by simp) (by simp) hnm'
    have hfx : ¬ (k + 1 = n ∧ x ≠ ownNm) → (¬ k = n - 1 ∧ ¬ (k : Int) = ((n - 1 : Nat) : Int)) ∨ ((x == [46, 115, 104, 115, 116, 114, 116, 97, 98]) = true) := by
      intro hc
      by_cases hf : k + 1 = n
      · right
        have : x = ownNm := Classical.byContradiction fun e => hc ⟨hf, e⟩
        rw [this]
        rfl
      · exact .inl ⟨by omega, by omega⟩
    cases kn with
    | true =>
      by_cases hb2 : k + 1 = n ∧ x ≠ ownNm
      · exact hbad2 hb2.1 hb2.2 (.inl rfl)
      · have hnm' := hnm
        rw [if_neg (by rintro (⟨e, _⟩ | e); cases e; exact hb2 e), if_pos rfl] at hnm'
        have hgo := go s sl nx hkp rfl hmp hnm'
        have ha := happ s rfl rfl
        rcases hfx hb2 with ⟨c1, c2⟩ | c1
        · simp [F194_elf_file_names_b0, hle, hro', mkV, g1, g2, f1', f2, f3, w1, hAt0, zeroV, hlk, hxb, hxe, c1, c2, fillV, reps, lay, ofDs, toDs, toD, h1, ha]
          simpa using hgo
        · have c1' : x = [46, 115, 104, 115, 116, 114, 116, 97, 98] := by simpa using c1
          by_cases hf : k + 1 = n
          · have hf1 := eq_true (hfk.2 hf)
            have hf2 := eq_true (show k = n - 1 by omega)
            simp [F194_elf_file_names_b0, hle, hro', mkV, g1, g2, f1', f2, f3, w1, hAt0, zeroV, hlk, hxb, hxe, c1, hf1, hf2, fillV, reps, lay, ofDs, toDs, toD, h1, ha]
            simpa using hgo
          · have c2 : ¬ (k : Int) = ((n - 1 : Nat) : Int) := by omega
            have c3 : ¬ k = n - 1 := by omega
            simp [F194_elf_file_names_b0, hle, hro', mkV, g1, g2, f1', f2, f3, w1, hAt0, zeroV, hlk, hxb, hxe, c1, c2, c3, fillV, reps, lay, ofDs, toDs, toD, h1, ha]
            simpa using hgo
    | false =>
      by_cases hpn : pl = nx
      · subst hpn
        by_cases hb2 : k + 1 = n ∧ x ≠ ownNm
        · exact hbad2 hb2.1 hb2.2 (.inr rfl)
        · have hnm' := hnm
          rw [if_neg (by rintro (⟨_, e⟩ | e); exact e rfl; exact hb2 e), if_neg (by decide)] at hnm'
          have w4 : IntKind.wrap .i64 ((pl : Int) + (x.length : Int)) = (pl : Int) + (x.length : Int) := wrap_i64 (by omega) (by omega)
          have w5 : IntKind.wrap .i64 ((pl : Int) + (x.length : Int) + 1) = ((pl + x.length + 1 : Nat) : Int) := by rw [wrap_i64 (by omega) (by omega)]; omega
          have hms : mapSetV false s (.map mid) (.d (.i .i64 (pl : Int))) (.d (.i .i64 (k : Int))) = some (s.putM mid (entsI (sl ++ [(pl, k)]))) := by
            simp [mapSetV, keyOk, hmp, setE_entsI pl k sl hkn.symm, setBlk_putM hTb.fl]
          obtain ⟨s2, hs2⟩ : ∃ s2, s2 = s.putM mid (entsI (sl ++ [(pl, k)])) := ⟨_, rfl⟩
          rw [← hs2] at hms
          have hgo := go s2 (sl ++ [(pl, k)]) (pl + x.length + 1) (hkp.trans (by rw [hs2]; exact Kp.putM rfl)) (by rw [hs2]; rfl) (by rw [hs2]; exact mapOf_putM hmpid) hnm'
          have ha := happ s2 (by rw [hs2]; rfl) (by rw [hs2]; rfl)
          obtain ⟨nx2, hnx2⟩ : ∃ nx2 : Int, nx2 = ((pl + x.length + 1 : Nat) : Int) := ⟨_, rfl⟩
          rw [← hnx2] at w5 hgo
          rcases hfx hb2 with ⟨c1, c2⟩ | c1
          · simp [F194_elf_file_names_b0, hle, hro', mkV, g1, g2, f1', f2, f3, w1, hAt0, zeroV, hlk, hxb, hxe, c1, c2, fillV, reps, lay, ofDs, toDs, toD, h1, hms, w4, w5, ha]
            simpa using hgo
          · by_cases hf : k + 1 = n
            · have hf1 := eq_true (hfk.2 hf)
              have hf2 := eq_true (show k = n - 1 by omega)
              simp [F194_elf_file_names_b0, hle, hro', mkV, g1, g2, f1', f2, f3, w1, hAt0, zeroV, hlk, hxb, hxe, c1, hf1, hf2, fillV, reps, lay, ofDs, toDs, toD, h1, hms, w4, w5, ha]
              simpa using hgo
            · have c2 : ¬ (k : Int) = ((n - 1 : Nat) : Int) := by omega
              have c3 : ¬ k = n - 1 := by omega
              simp [F194_elf_file_names_b0, hle, hro', mkV, g1, g2, f1', f2, f3, w1, hAt0, zeroV, hlk, hxb, hxe, c1, c2, c3, fillV, reps, lay, ofDs, toDs, toD, h1, hms, w4, w5, ha]
              simpa using hgo
      · have hpn' : ¬ (pl : Int) = (nx : Int) := by omega
        have hnm' : namesM ns L t n (n - 1) 1 [] 1 [] = .inl (t + 64 * k) := by rw [hnm, if_pos (.inl ⟨rfl, hpn⟩)]
        simp [F194_elf_file_names_b0, hle, hro', mkV, g1, g2, f1', f2, f3, w1, hAt0, zeroV, hlk, hxb, hxe, hpn, hpn', w2, w3]
        exact hret _ _ (by simp) (by simp) hnm'
end
end Go.Sh

/- Sections read: the names, whole. -/
set_option linter.unusedVariables false
set_option linter.unusedSimpArgs false
namespace Go.Sh
theorem rdNm_place : ∀ {k : Nat} {ns : List Nm} {a q : Nat} {r : List UInt8}, rdNm k ns a r = (none, q) → q ≤ a + r.length
  | 0, ns, a, q, r, h => by simp [rdNm] at h
  | k + 1, ns, a, q, r, h => by
    unfold rdNm at h
    split at h
    · cases h
    · split at h
      · simp only [Prod.mk.injEq, true_and] at h
        omega
      · rename_i h1 h2
        have := rdNm_place h
        have hl := toZero_len r
        rw [List.length_drop] at this
        simp only [not_or] at h2
        omega
theorem readB_place {X : List UInt8} {q : Nat} (h : readB X = (none, q)) : q ≤ X.length := by
  cases X with
  | nil =>
    simp only [readB, Prod.mk.injEq, true_and] at h
    omega
  | cons x r =>
    simp only [readB] at h
    split at h
    · have := rdNm_place h
      simp only [List.length_cons]
      omega
    · simp only [Prod.mk.injEq, true_and] at h
      omega
theorem namesM_nx {ns : List Nm} {L : List UInt8} {t n : Nat} (hns : ∀ s ∈ ns, s.length ≤ 64) : ∀ {m k nx nx' : Nat} {sl : List (Nat × Nat)} {out out' : List Nm}, namesM ns L t n m k sl nx out = .inr (out', nx') → nx ≤ 8589934592 → nx' ≤ 8589934592
  | 0, k, nx, nx', sl, out, out', h, hb => by
    simp only [namesM, Sum.inr.injEq, Prod.mk.injEq] at h
    omega
  | m + 1, k, nx, nx', sl, out, out', h, hb => by
    simp only [namesM] at h
    split at h
    · cases h
    · rename_i s hs
      split at h
      · cases h
      · split at h
        · exact namesM_nx hns h hb
        · refine namesM_nx hns h ?_
          have h1 := fv0_lt L t k
          have h2 : s.length ≤ 64 := by
            unfold nmOf at hs
            split at hs
            · cases hs
            · obtain ⟨i, h3, _⟩ := nmAt_some hs
              exact hns s (List.mem_of_getElem? h3)
          omega
def dataAt (L : List UInt8) (t : Nat) (ats : List Nat) (k : Nat) : List UInt8 := (L.take (ats.getD k 0 + fv (entAt L t k) 5)).drop (ats.getD k 0)
def namesR (L : List UInt8) (t n : Nat) (ats : List Nat) : Nat ⊕ List Nm := match readB (dataAt L t ats (n - 1)) with
  | (none, q) => .inl (ats.getD (n - 1) 0 + q)
  | (some ns, _) => match namesM ns L t n (n - 1) 1 [] 1 [] with
    | .inl b => .inl b
    | .inr (out, nx) => if nx = fv (entAt L t (n - 1)) 5 then .inr out else .inl (ats.getD (n - 1) 0 + nx)
section
variable {pr : Prog} (hp : Sub elfFns pr) (hs : Sub strsFns pr) (hq : SubP strsPrims pr)
include hp hs hq
theorem den_names {st : St} {p t n : Nat} {L : List UInt8} {vE vA : V} {tE tA : Nat} {ats : List Nat} (hfl : st.floor = 0) (htf : st.tfloor = 0) (hro : st.row p = some [bsl true L, .d (.i .i64 (t : Nat)), vE, vA]) (hE : NL st vE tE ((entsTo L t n).map entD)) (hA : NL st vA tA (intC ats)) (hal : ats.length = n) (hn2 : 2 ≤ n) (hn18 : n ≤ 18) (htL : t ≤ L.length) (hL : L.length ≤ 1099511626000)
    (hfit : ∀ k b, ats[k]? = some b → 0 < k → b + fv (entAt L t k) 5 ≤ t) :
    ∃ v s, den pr 194 [.ptr p 0] st = some (v, s) ∧ match namesR L t n ats with
      | .inl b => v = .tup [.d (.sl 0 false []), .d (.i .i64 (b : Nat))]
      | .inr out => ∃ T, v = .tup [.own 1 (n - 1) true (out.map .s) T, .d (.i .i64 (-1))] ∧ out.length = n - 1 ∧ Kp st s (fun _ => False) (fun _ => False) := by
  obtain ⟨R, hR⟩ : ∃ R : V → St → Prop, ∀ v s, R v s ↔ match namesR L t n ats with
      | .inl b => v = .tup [.d (.sl 0 false []), .d (.i .i64 (b : Nat))]
      | .inr out => ∃ T, v = .tup [.own 1 (n - 1) true (out.map .s) T, .d (.i .i64 (-1))] ∧ out.length = n - 1 ∧ Kp st s (fun _ => False) (fun _ => False) := ⟨_, fun _ _ => Iff.rfl⟩
  suffices h : Ans R (den pr 194 [.ptr p 0] st) by
    obtain ⟨x, st', h1, h2⟩ := h.ex
    exact ⟨x, st', h1, (hR _ _).1 h2⟩
  obtain ⟨f, hf⟩ : ∃ f, f = n - 1 := ⟨_, rfl⟩
  obtain ⟨a, ha⟩ : ∃ a, ats[f]? = some a := ⟨_, List.getElem?_eq_getElem (by omega)⟩
  obtain ⟨F, hF⟩ : ∃ F, F = entAt L t f := ⟨_, rfl⟩
  obtain ⟨x, hx⟩ : ∃ x, x = fv F 5 := ⟨_, rfl⟩
  have hFl : F.length = 10 := by rw [hF]; exact entAt_len _ _ _
  have hfn : f < n := by omega
  have hEk : (entsTo L t n)[f]? = some F := by simp [entsTo, hfn, hF]
  have hfx := hfit f a ha (by omega)
  rw [← hF, ← hx] at hfx
  have hgd : ats.getD f 0 = a := by rw [List.getD_eq_getElem?_getD, ha]; rfl
  obtain ⟨X, hX⟩ : ∃ X, X = (L.take (a + x)).drop a := ⟨_, rfl⟩
  have hXl : X.length ≤ L.length := by rw [hX, List.length_drop, List.length_take]; omega
  have hda : dataAt L t ats f = X := by unfold dataAt; rw [hgd, ← hF, ← hx, hX]
  have hda2 := den_data hp (st := st) hro hE hA hEk ha hFl (by rw [← hx]; omega) (by omega)
  rw [← hx, ← hX] at hda2
  have hcl := fun st => den_clone9 hp (st := st) X (by omega)
  obtain ⟨rv, s1, r1, r2⟩ := den_Read hs hq (st := st) hfl htf (v := bsl true X) (L := X) (.inl ⟨true, rfl⟩) (by omega)
  obtain ⟨k1, r2⟩ := r2
  have hElen := hE.len
  rw [List.length_map, show (entsTo L t n).length = n by simp [entsTo]] at hElen
  have w1 : IntKind.wrap .i64 ((n : Int) - 1) = (f : Int) := by rw [wrap_i64 (by omega) (by omega)]; omega
  have hro1 : s1.row p = some [bsl true L, .d (.i .i64 (t : Nat)), vE, vA] := (row_of_heap (k1.heap p (row_lt hro) (fun h => h))).trans hro
  obtain ⟨g1, g2⟩ := hA.get (i := f) (x := .i .i64 (a : Int)) (by simp [intC, ha]) (k := .i64)
  have hnR : namesR L t n ats = match readB X with
    | (none, q) => .inl (a + q)
    | (some ns, _) => match namesM ns L t n (n - 1) 1 [] 1 [] with
      | .inl b => .inl b
      | .inr (out, nx) => if nx = x then .inr out else .inl (a + nx) := by
    unfold namesR
    rw [← hf, hda, hgd, ← hF, ← hx]
  rw [den_fn (hp.at 12 rfl) rfl rfl, start_raw _ rfl]
  cases hrd : readB X with
  | mk o q =>
  rw [hrd] at r2 hnR
  cases o with
  | none =>
    simp only at r2 hnR
    subst r2
    have hqb : q ≤ X.length := readB_place hrd
    have w2 : IntKind.wrap .i64 ((a : Int) + (q : Int)) = ((a + q : Nat) : Int) := by rw [wrap_i64 (by omega) (by omega)]; omega
    simp [F194_elf_file_names, hro, mkV, hElen, w1, hda2, hcl, r1, hro1, g1, g2, w2]
    exact (hR _ _).2 (by rw [hnR]; simp)
  | some ns =>
    simp only at r2 hnR
    obtain ⟨qt, m, tn, tp, rfl, hTb, hq1, hm1, htk⟩ := r2
    have hns : X = tabB ns := (readB_some hrd).1
    have hend : endAt 1 ns ≤ 1099511627776 := by
      rw [← tabB_len, ← hns]
      omega
    obtain ⟨s2, hs2⟩ : ∃ s2, s2 = ({ s1 with tips := s1.tips ++ [0] } : St) := ⟨_, rfl⟩
    obtain ⟨s3, hs3⟩ : ∃ s3, s3 = s2.push (.map []) := ⟨_, rfl⟩
    have k2 : Kp s1 s2 (fun _ => False) (fun _ => False) := by rw [hs2]; exact ⟨rfl, rfl, Nat.le_refl _, by simp, fun _ _ _ => rfl, fun u hu _ => by simp only; rw [List.getElem?_append_left hu]⟩
    have k3 : Kp s2 s3 (fun _ => False) (fun _ => False) := by rw [hs3]; exact .push _
    have k13 := k2.trans k3
    have hh2 : s2.heap = s1.heap := by rw [hs2]
    have hmap : s3.mapOf s2.heap.length = some [] := by rw [hs3]; exact mapOf_push_new
    have hti : s3.tips[s1.tips.length]? = some 0 := by rw [hs3, hs2]; simp
    have hro3 : s3.row p = some [bsl true L, .d (.i .i64 (t : Nat)), vE, vA] := (row_of_heap (k13.heap p (row_lt hro1) (fun h => h))).trans hro1
    have hpl := row_lt hro1
    have hql := hTb.plt
    have hml := map_lt hTb.map
    have hTb3 : Tbl s3 qt m tn tp ns := hTb.keep k13 (fun h => h) (fun h => h) fun _ => ⟨fun h => h, fun h => h⟩
    have htl : ns ≠ [] → tn ≠ s1.tips.length ∧ tp ≠ s1.tips.length := fun hne => by
      obtain ⟨vN, vP, _, hN, hP⟩ := hTb.row
      have e1 := hN.lt (by simpa using hne)
      have e2 := hP.lt (by simpa using plcs_ne (a := 1) hne)
      exact ⟨by omega, by omega⟩
    obtain ⟨r, q1, q2⟩ := names_in hs (p := p) (q := qt) (t := t) (n := n) (L := L) (T := s1.tips.length) hro3 hE hTb3 hend hmap hti (by rw [hh2]; omega) (by rw [hh2]; omega) (by rw [hh2]; omega) htl hn2 hn18 (by omega)
    rw [← hf] at q1 q2 hnR
    simp [F194_elf_file_names, hro, mkV, hElen, w1, hda2, hcl, r1, ← hs2, ← hs3, q1]
    rcases q2 with ⟨e, s4, out, nx, rfl, u0, u4, u8, u10, hT4, hol, k4, hM⟩ | ⟨e, s4, b, rfl, u2, u3, hM⟩
    rotate_left
    · rw [hM] at hnR
      simp [u2, u3]
      exact (hR _ _).2 (by rw [hnR])
    rw [hM] at hnR
    simp only at hnR
    have hro4 : s4.row p = some [bsl true L, .d (.i .i64 (t : Nat)), vE, vA] := (row_of_heap (k4.heap p (row_lt hro3) (by rw [hh2]; omega))).trans hro3
    have hsz := den_size hp (st := s4) hro4 hE hEk hFl (by rw [← hx]; omega)
    rw [← hx] at hsz
    by_cases hnx : nx = x
    · have hnx' := eq_true (show (nx : Int) = (x : Int) by omega)
      rw [if_pos hnx] at hnR
      simp [u0, u4, u8, u10, hsz, hnx, hnx']
      refine (hR _ _).2 ?_
      rw [hnR, ← hf]
      have h1 := k1.hlen
      have h2 := k1.tlen
      refine ⟨_, rfl, hol, ((((k1.trans k13).mono (fun _ _ h => h.elim) fun _ _ h => h.elim).trans k4).mono (fun i hi he => ?_) fun u hu he => ?_)⟩
      · rw [hh2] at he
        omega
      · omega
    · have hnx' : ¬ (nx : Int) = (x : Int) := by omega
      rw [if_neg hnx] at hnR
      have hnb : nx ≤ 8589934592 := namesM_nx (fun s hs => (okNm_len (hTb.ok s hs)).2) hM (by decide)
      have w2 : IntKind.wrap .i64 ((a : Int) + (nx : Int)) = ((a + nx : Nat) : Int) := by rw [wrap_i64 (by omega) (by omega)]; omega
      simp [u0, u4, u8, u10, hsz, hnx, hnx', hro4, mkV, g1, g2, w2]
      exact (hR _ _).2 (by rw [hnR]; simp)
end
end Go.Sh

/- Sections read, whole. -/
set_option linter.unusedVariables false
set_option linter.unusedSimpArgs false
namespace Go.Sh
theorem fldsM_ok {L : List UInt8} {t n : Nat} : ∀ {m k a : Nat} {ats : List Nat}, fldsM L t n m k a = (none, ats) → ∀ j b, ats[j]? = some b → badEnt t (k + j) b (decide (k + j + 1 = n)) (entAt L t (k + j)) = none
  | 0, k, a, ats, h => by
    simp only [fldsM, Prod.mk.injEq, true_and] at h
    subst h
    exact fun j b hb => by simp at hb
  | m + 1, k, a, ats, h => by
    simp only [fldsM] at h
    split at h
    · cases h
    · rename_i hbe
      simp only [Prod.mk.injEq] at h
      obtain ⟨h1, h2⟩ := h
      have q2 := fldsM_ok (m := m) (k := k + 1) (a := nxtA k a (entAt L t k)) (ats := (fldsM L t n m (k + 1) (nxtA k a (entAt L t k))).2) (by rw [← h1])
      rw [← h2]
      intro j b hb
      cases j with
      | zero =>
        obtain rfl : a = b := by simpa using hb
        exact hbe
      | succ j =>
        have := q2 j b (by simpa using hb)
        rw [show k + (j + 1) = k + 1 + j by omega]
        exact this
theorem fv_lt {L : List UInt8} {t k i w : Nat} (h : entW[i]? = some w) : fv (entAt L t k) i < 256 ^ w := by
  have h' := toldF_get (L := (L.take (t + 64 * k + 64)).drop (t + 64 * k)) h
  unfold fv entAt
  rw [List.getD_eq_getElem?_getD, h']
  exact Nat.lt_of_lt_of_le (getN_lt _) (Nat.pow_le_pow_right (by decide) (by rw [List.length_take]; omega))
/-- Numbers that fit. -/
theorem fv_fit {L : List UInt8} {t k a : Nat} {fin : Bool} (h : badEnt t k a fin (entAt L t k) = none) (hk : 0 < k) {i : Nat} (hi : i = 1 ∨ i = 2 ∨ i = 6 ∨ i = 7 ∨ i = 8 ∨ i = 9) : fv (entAt L t k) i < 2 ^ 63 := by
  have h1 := fv_lt (L := L) (t := t) (k := k) (i := 1) (w := 4) rfl
  have h6 := fv_lt (L := L) (t := t) (k := k) (i := 6) (w := 4) rfl
  have h7 := fv_lt (L := L) (t := t) (k := k) (i := 7) (w := 4) rfl
  have key : ∀ i, i = 2 ∨ i = 8 ∨ i = 9 → fv (entAt L t k) i < 2 ^ 63 := by
    intro i hi
    have hb := badEnt_none h (i := i) (by omega)
    simp only [badFld, Bool.or_eq_false_iff] at hb
    have hw := hb.1.1
    have hk' : ¬ k = 0 := by omega
    simp [wrongM, hk', hi] at hw
    omega
  rcases hi with rfl | hi | rfl | rfl | hi | hi
  · omega
  · exact key i (.inl hi)
  · omega
  · omega
  · exact key i (.inr (.inl hi))
  · exact key i (.inr (.inr hi))
def secR (L : List UInt8) (t : Nat) (ats : List Nat) (out : List Nm) (k : Nat) : Sec :=
  ⟨out.getD (k - 1) [], fv (entAt L t k) 1, fv (entAt L t k) 2, fv (entAt L t k) 6, fv (entAt L t k) 7, fv (entAt L t k) 8, fv (entAt L t k) 9, dataAt L t ats k, true⟩
def secsR (L : List UInt8) (t : Nat) (ats : List Nat) (out : List Nm) (m : Nat) : List Sec := (List.range m).map fun i => secR L t ats out (i + 1)
def tabP (L : List UInt8) : Nat := (roomI L).toNat
def readF (L : List UInt8) : (Nat × Int) ⊕ List Sec :=
  if L.length < 64 then .inl (L.length, 90) else match headP L with
    | some i => .inl (i, 91)
    | none => match fldsM L (tabP L) (hv L 14) (hv L 14) 0 64 with
      | (some q, _) => .inl (q, 92)
      | (none, ats) => match padM L (tabP L) ats (hv L 14 - 1) 1 with
        | some q => .inl (q, 93)
        | none => match namesR L (tabP L) (hv L 14) ats with
          | .inl b => .inl (b, 92)
          | .inr out => .inr (secsR L (tabP L) ats out (hv L 14 - 2))
theorem headP_none {L : List UInt8} (h : headP L = none) : 2 ≤ hv L 14 ∧ hv L 14 ≤ 18 ∧ tabP L + 64 * hv L 14 = L.length ∧ 64 ≤ tabP L ∧ tabP L % 8 = 0 ∧ roomI L = (tabP L : Int) ∧ hv L 8 = tabP L ∧ hv L 15 = hv L 14 - 1 ∧ ∀ i, i < 60 → (i < 40 ∨ 48 ≤ i) → L.getD i 0 = wantB.getD i 0 := by
  have hb : ∀ i, i < 64 → headBad L i = false := fun i hi => by
    unfold headP at h
    rw [List.find?_eq_none] at h
    simpa using h i (List.mem_range.2 hi)
  have h40 := hb 40 (by decide)
  have h60 := hb 60 (by decide)
  have h62 := hb 62 (by decide)
  simp [headBad] at h40 h60 h62
  have hr : roomI L = (L.length : Int) - 64 * (hv L 14 : Int) := rfl
  have ht : (tabP L : Int) = roomI L := by unfold tabP; omega
  refine ⟨by omega, by omega, by omega, by omega, by omega, by omega, by omega, by omega, fun i hi ho => ?_⟩
  have := hb i (by omega)
  simp only [headBad, Bool.or_eq_false_iff] at this
  have h4 := this.2
  simp at h4
  rw [List.getD_eq_getElem?_getD, List.getD_eq_getElem?_getD]
  refine h4 ?_ ?_
  · omega
  · omega
end Go.Sh

/- What Read comes to. -/
set_option linter.unusedVariables false
set_option linter.unusedSimpArgs false
namespace Go.Sh
theorem secsR_succ (L : List UInt8) (t : Nat) (ats : List Nat) (out : List Nm) (m : Nat) : secsR L t ats out (m + 1) = secsR L t ats out m ++ [secR L t ats out (m + 1)] := by simp [secsR, List.range_succ]
section
variable {pr : Prog} (hp : Sub elfFns pr)
include hp
theorem read_in {st st' : St} {p q c t n T Tn : Nat} {L : List UInt8} {ats : List Nat} {out : List Nm} {vE vA : V} {tE tA : Nat} (hfl : st.floor = 0) (htf : st.tfloor = 0) (hro : st.row p = some [bsl true L, .d (.i .i64 (t : Nat)), vE, vA]) (hqr : st.row q = some [.ptr p 0]) (hcr : st.row c = some [.d (.i .i64 1)]) (hcp : c ≠ p) (hcq : c ≠ q)
    (hE : NL st' vE tE ((entsTo L t n).map entD)) (hA : NL st' vA tA (intC ats)) (hal : ats.length = n) (hn2 : 2 ≤ n) (hn18 : n ≤ 18) (htL : t ≤ L.length) (hL : L.length ≤ 1099511626000) (hfit : ∀ k b, ats[k]? = some b → 0 < k → b + fv (entAt L t k) 5 ≤ t)
    (hbe : ∀ k b, ats[k]? = some b → badEnt t k b (decide (k + 1 = n)) (entAt L t k) = none) (hol : out.length = n - 1) (hti : st.tips[T]? = some 0) :
    ∃ e s, cden pr (.loop [5, 9, 11, 12] false F178_elf_Read_b0) [(5, .ptr q 0), (9, .own 1 (n - 1) true (out.map .s) Tn), (11, .own 8 0 false [] T), (12, .ptr c 0)] st = some (.exit 0, e, s) ∧ e.get 11 = some (.own 8 (n - 2) (decide (0 < n - 2)) ((secsR L t ats out (n - 2)).map Sec.cells).flatten T) ∧ s.tips[T]? = some (n - 2) := by
  obtain ⟨J2, hJ2⟩ : ∃ J2 : Out → Prop, ∀ r, J2 r ↔ ∃ e s, r = (.exit 0, e, s) ∧ e.get 11 = some (.own 8 (n - 2) (decide (0 < n - 2)) ((secsR L t ats out (n - 2)).map Sec.cells).flatten T) ∧ s.tips[T]? = some (n - 2) := ⟨_, fun _ => Iff.rfl⟩
  suffices h : ∃ r, cden pr (.loop [5, 9, 11, 12] false F178_elf_Read_b0) [(5, .ptr q 0), (9, .own 1 (n - 1) true (out.map .s) Tn), (11, .own 8 0 false [] T), (12, .ptr c 0)] st = some r ∧ J2 r by
    obtain ⟨r, h1, h2⟩ := h
    obtain ⟨e, s, rfl, h3, h4⟩ := (hJ2 r).1 h2
    exact ⟨e, s, h1, h3, h4⟩
  obtain ⟨C, hC⟩ : ∃ C : Nat → List D, ∀ m, C m = ((secsR L t ats out m).map Sec.cells).flatten := ⟨_, fun _ => rfl⟩
  obtain ⟨J, hJ⟩ : ∃ J : Nat → Env → St → Prop, ∀ m e s, J m e s ↔ ∃ (k c : Nat), m + k = n - 1 ∧ 1 ≤ k ∧ e = [(5, .ptr q 0), (9, .own 1 (n - 1) true (out.map .s) Tn), (11, .own 8 (k - 1) (decide (0 < k - 1)) (C (k - 1)) T), (12, .ptr c 0)] ∧ s.floor = 0 ∧ s.tfloor = 0 ∧ s.row p = some [bsl true L, .d (.i .i64 (t : Nat)), vE, vA] ∧ s.row q = some [.ptr p 0] ∧ s.row c = some [.d (.i .i64 (k : Nat))] ∧ s.tips[T]? = some (k - 1) := ⟨_, fun _ _ _ => Iff.rfl⟩
  refine loop_j J ?_ (n := n - 2) ((hJ _ _ _).2 ⟨1, c, by omega, Nat.le_refl _, by simp [hC, secsR], hfl, htf, hro, hqr, hcr, hti⟩)
  intro m e s hj
  obtain ⟨k, c, hm, hk1, rfl, sfl, stf, sp, sq, sc, sT⟩ := (hJ _ _ _).1 hj
  have hElen := hE.len
  rw [List.length_map, show (entsTo L t n).length = n by simp [entsTo]] at hElen
  have w1 : IntKind.wrap .i64 ((n : Int) - 1) = ((n - 1 : Nat) : Int) := by rw [wrap_i64 (by omega) (by omega)]; omega
  rcases Nat.lt_or_ge k (n - 1) with h | h
  rotate_left
  · obtain rfl : k = n - 1 := by omega
    obtain rfl : m = 0 := by omega
    simp [F178_elf_Read_b0, sq, sc, sp, mkV, hElen, w1]
    refine (hJ2 _).2 ⟨_, _, rfl, ?_, by rw [sT]; rfl⟩
    have e0 : n - 1 - 1 = n - 2 := by omega
    simp [hC, e0]
  obtain ⟨b, hb⟩ : ∃ b, ats[k]? = some b := ⟨_, List.getElem?_eq_getElem (by omega)⟩
  obtain ⟨F, hF⟩ : ∃ F, F = entAt L t k := ⟨_, rfl⟩
  have hFl : F.length = 10 := by rw [hF]; exact entAt_len _ _ _
  have hEk : (entsTo L t n)[k]? = some F := by simp [entsTo, (by omega : k < n), hF]
  have hfk := hfit k b hb (by omega)
  have hfv := fun i hi => fv_fit (hbe k b hb) (by omega) (i := i) hi
  rw [← hF] at hfk hfv
  have hnum := fun i hi hx => den_num hp (st := s) (p := p) (q := q) (c := c) (t := t) (k := k) (i := i) sq sc sp hE hEk hFl hi hx
  have n1 : den pr 196 [.d (.i .i64 1), .ptr q 0, .ptr c 0] s = some (.d (.i .i64 (fv F 1 : Nat)), s) := hnum 1 (by decide) (hfv 1 (by simp))
  have n2 : den pr 196 [.d (.i .i64 2), .ptr q 0, .ptr c 0] s = some (.d (.i .i64 (fv F 2 : Nat)), s) := hnum 2 (by decide) (hfv 2 (by simp))
  have n6 : den pr 196 [.d (.i .i64 6), .ptr q 0, .ptr c 0] s = some (.d (.i .i64 (fv F 6 : Nat)), s) := hnum 6 (by decide) (hfv 6 (by simp))
  have n7 : den pr 196 [.d (.i .i64 7), .ptr q 0, .ptr c 0] s = some (.d (.i .i64 (fv F 7 : Nat)), s) := hnum 7 (by decide) (hfv 7 (by simp))
  have n8 : den pr 196 [.d (.i .i64 8), .ptr q 0, .ptr c 0] s = some (.d (.i .i64 (fv F 8 : Nat)), s) := hnum 8 (by decide) (hfv 8 (by simp))
  have n9 : den pr 196 [.d (.i .i64 9), .ptr q 0, .ptr c 0] s = some (.d (.i .i64 (fv F 9 : Nat)), s) := hnum 9 (by decide) (hfv 9 (by simp))
  have hda := den_data hp (st := s) sp hE hA hEk hb hFl (by omega) (by omega)
  have hgd : ats.getD k 0 = b := by rw [List.getD_eq_getElem?_getD, hb]; rfl
  obtain ⟨X, hX⟩ : ∃ X, X = (L.take (b + fv F 5)).drop b := ⟨_, rfl⟩
  rw [← hX] at hda
  have hcl : ∀ st, den pr 198 [.d (.sl X.length true (byteCells X))] st = some (.d (.sl X.length true (byteCells X)), st) := fun st => den_clone9 hp (st := st) X (by rw [hX, List.length_drop, List.length_take]; omega)
  obtain ⟨nm, hnm⟩ : ∃ nm, out[k - 1]? = some nm := ⟨_, List.getElem?_eq_getElem (by omega)⟩
  have w2 : IntKind.wrap .i64 ((k : Int) - 1) = ((k - 1 : Nat) : Int) := by rw [wrap_i64 (by omega) (by omega)]; omega
  have hil : k - 1 < (out.map D.s).length := by simp; omega
  have hnd : (out.map D.s).drop (k - 1) = .s nm :: (out.map D.s).drop (k - 1 + 1) := by rw [List.drop_eq_getElem_cons hil]; simp [(List.getElem?_eq_some_iff.1 hnm).2]
  have hia : iaddrV 1 (.own 1 (n - 1) true (out.map .s) Tn) (.d (.i .i64 ((k - 1 : Nat) : Int))) = some (.ep ((out.map D.s).drop (k - 1))) := by simp [iaddrV]; omega
  have hld : ∀ s, loadV 1 false s (.ep ((out.map D.s).drop (k - 1))) = some (.d (.s nm)) := fun s => by rw [hnd]; simp [loadV, mkV, ofDs]
  have hsec : secR L t ats out k = ⟨nm, fv F 1, fv F 2, fv F 6, fv F 7, fv F 8, fv F 9, X, true⟩ := by
    have : out.getD (k - 1) [] = nm := by rw [List.getD_eq_getElem?_getD, hnm]; rfl
    unfold secR dataAt
    rw [this, hgd, ← hF, hX]
  have hCk : C k = C (k - 1) ++ (Sec.cells ⟨nm, fv F 1, fv F 2, fv F 6, fv F 7, fv F 8, fv F 9, X, true⟩) := by
    rw [hC, hC, ← hsec]
    conv => lhs; rw [show k = k - 1 + 1 by omega, secsR_succ]
    rw [show k - 1 + 1 = k by omega]
    simp
  have hCl : (C (k - 1)).length = (k - 1) * 8 := by rw [hC, secC_len]; simp [secsR]
  have hap : appV 8 88 s (.own 8 (k - 1) (decide (0 < k - 1)) (C (k - 1)) T) (.d (.sl 1 true (Sec.cells ⟨nm, fv F 1, fv F 2, fv F 6, fv F 7, fv F 8, fv F 9, X, true⟩))) = some (.own 8 (k - 1 + 1) true (C k) T, { s with tips := s.tips.set T (k - 1 + 1) }) := by
    have htf' : s.tfloor ≤ T := by omega
    have h1 : (k - 1 + 1) * 88 ≤ 140737488355328 := by omega
    have h2 : k - 1 + 1 ≤ 140737488355328 := by omega
    simp only [appV, vw, sT]
    rw [if_pos (by simp [htf', hCl, h1, h2, Sec.cells]), hCk]
    simp
  obtain ⟨s1, hs1⟩ : ∃ s1, s1 = ({ s with tips := s.tips.set T (k - 1 + 1) } : St) := ⟨_, rfl⟩
  rw [← hs1] at hap
  have hh1 : s1.heap = s.heap := by rw [hs1]
  have r1 : s1.row c = some [.d (.i .i64 (k : Nat))] := (row_of_heap (by rw [hh1])).trans sc
  have rp1 := (row_of_heap (a := s) (b := s1) (i := p) (by rw [hh1])).trans sp
  have rq1 := (row_of_heap (a := s) (b := s1) (i := q) (by rw [hh1])).trans sq
  have hfl1 : s1.floor ≤ s1.heap.length := by rw [hs1]; simp [sfl]
  have h1 : IntKind.wrap .i64 ((k : Int) + 1) = ((k + 1 : Nat) : Int) := by rw [wrap_i64 (by omega) (by omega)]; omega
  have hlt : (k : Int) < ((n - 1 : Nat) : Int) := by omega
  simp only [Sec.cells] at hap
  have hgo : ∃ m0, m0 < m ∧ J m0 [(5, .ptr q 0), (9, .own 1 (n - 1) true (out.map .s) Tn), (11, .own 8 (k - 1 + 1) true (C k) T), (12, .ptr s1.heap.length 0)] (s1.push (.row [.d (.i .i64 ((k + 1 : Nat) : Int))])) := by
    refine ⟨m - 1, by omega, (hJ _ _ _).2 ⟨k + 1, s1.heap.length, by omega, by omega, ?_, by rw [hs1]; exact sfl, by rw [hs1]; exact stf, ?_, ?_, row_push_new rfl, ?_⟩⟩
    · rw [show k + 1 - 1 = k by omega, show k - 1 + 1 = k by omega]
      simp
      omega
    · rw [row_push_old (by rw [hh1]; exact row_lt sp)]; exact rp1
    · rw [row_push_old (by rw [hh1]; exact row_lt sq)]; exact rq1
    · have := (List.getElem?_eq_some_iff.1 sT).1
      rw [push_tips, hs1]
      simp [this]
      omega
  simp [F178_elf_Read_b0, sq, sc, sp, mkV, hElen, w1, hlt, w2, hia, hld, n1, n2, n6, n7, n8, n9, hda, hcl, fillV, reps, lay, ofDs, toDs, toD, bsl, n1, n2, n6, n7, n8, n9, hap, r1, hfl1, h1]
  simpa using hgo
variable (hs : Sub strsFns pr) (hq : SubP strsPrims pr) {st : St}
omit hp in
def rdV (L : List UInt8) : V := match readF L with
  | .inl (q, e) => .tup [.d (.sl 0 false []), .d (.i .i64 (q : Nat)), .d (.i .i64 e)]
  | .inr ss => .tup [secV ss (decide (0 < ss.length)), .d (.i .i64 0), .d (.i .i64 0)]
include hs hq
theorem den_Read9 {v : V} {L : List UInt8} {nz : Bool} (hcv : close1 v = some (bsl nz L)) (hz : nz = false → L = []) (hL : L.length ≤ 1099511626000) : den pr 178 [v] st = some (rdV L, st) := by
  refine den_shut (hp.at 18 rfl) rfl rfl (by simp [hcv]; rfl) ?_
  by_cases h64 : L.length < 64
  · have h64' : (L.length : Int) < 64 := by omega
    have hr : rdV L = .tup [.d (.sl 0 false []), .d (.i .i64 (L.length : Nat)), .d (.i .i64 90)] := by unfold rdV readF; rw [if_pos h64]
    simp [F178_elf_Read, h64', hr]
  have h64' : ¬ (L.length : Int) < 64 := by omega
  have hnz : nz = true := by
    cases nz with
    | true => rfl
    | false => rw [hz rfl] at h64; simp at h64
  subst hnz
  obtain ⟨s1, hs1⟩ : ∃ s1, s1 = s0 [.row [bsl true L, .d (.i .i64 0), .d (.sl 0 false []), .d (.sl 0 false [])], .row [.ptr 0 0]] [] 0 0 := ⟨_, rfl⟩
  have hro : s1.row 0 = some [bsl true L, .d (.i .i64 0), .d (.sl 0 false []), .d (.sl 0 false [])] := by rw [hs1]; rfl
  have hqr : s1.row 1 = some [.ptr 0 0] := by rw [hs1]; rfl
  have hhd := den_head hp hro (by rw [hs1]; rfl) (by omega) (by omega)
  have hfl1 : s1.floor = 0 := by rw [hs1]; rfl
  have htf1 : s1.tfloor = 0 := by rw [hs1]; rfl
  have hpc : ∀ a b, (V.ptr a b).cs = [V.ptr a b] := fun _ _ => rfl
  obtain ⟨fb, hfb⟩ : ∃ fb, fb = bsl true L := ⟨_, rfl⟩
  have hlenb : lenV fb = some L.length := by rw [hfb]; rfl
  have hokb : V.ok1 fb = true := by rw [hfb]; rfl
  have hcsb : V.cs fb = [fb] := by rw [hfb]; rfl
  rw [← hfb] at hs1
  cases hP : headP L with
  | some i =>
    rw [hP] at hhd
    simp only at hhd
    have hr : rdV L = .tup [.d (.sl 0 false []), .d (.i .i64 (i : Nat)), .d (.i .i64 91)] := by unfold rdV readF; rw [if_neg h64, hP]
    rw [hr]
    have hge : (0 : Int) ≤ i := by omega
    simp [F178_elf_Read, hlenb, h64', fillV, lay, reps, ofDs, ← hfb, hokb, hcsb, hpc, ← hs1, hqr, mkV, hhd, hge]
  | none =>
    obtain ⟨m1, m2, m3, m4, m5, m6, m7, m8, m9⟩ := headP_none hP
    rw [hP, m6] at hhd
    simp only at hhd
    obtain ⟨n, hn⟩ : ∃ n, n = hv L 14 := ⟨_, rfl⟩
    obtain ⟨t, ht⟩ : ∃ t, t = tabP L := ⟨_, rfl⟩
    have hrF : readF L = match fldsM L t n n 0 64 with
      | (some q, _) => .inl (q, 92)
      | (none, ats) => match padM L t ats (n - 1) 1 with
        | some q => .inl (q, 93)
        | none => match namesR L t n ats with
          | .inl b => .inl (b, 92)
          | .inr out => .inr (secsR L t ats out (n - 2)) := by 
      unfold readF
      simp only [if_neg h64, hP, ht, hn]
      generalize fldsM L (tabP L) (hv L 14) (hv L 14) 0 64 = X
      obtain ⟨o, ats⟩ := X
      cases o with
      | some q => rfl
      | none =>
        simp only
        cases padM L (tabP L) ats (hv L 14 - 1) 1 with
        | some q => rfl
        | none =>
          simp only
          cases namesR L (tabP L) (hv L 14) ats <;> rfl
    rw [← hn] at m1 m2 m3
    rw [← ht] at m3 m4 m5 hhd
    obtain ⟨s2, hs2⟩ : ∃ s2, s2 = s1.put 0 [bsl true L, .d (.i .i64 (t : Nat)), .d (.sl 0 false []), .d (.sl 0 false [])] := ⟨_, rfl⟩
    rw [← hs2] at hhd
    have hro2 : s2.row 0 = some [bsl true L, .d (.i .i64 (t : Nat)), .d (.sl 0 false []), .d (.sl 0 false [])] := by rw [hs2]; exact row_put_eq (row_lt hro)
    have hqr2 : s2.row 1 = some [.ptr 0 0] := by rw [hs2, row_put_ne (by decide)]; exact hqr
    have hfl2 : s2.floor = 0 := by rw [hs2]; exact hfl1
    have htf2 : s2.tfloor = 0 := by rw [hs2]; exact htf1
    obtain ⟨fv', s3, f1, f2⟩ := den_fields hp (st := s2) (p := 0) (t := t) (n := n) (L := L) hro2 hfl2 htf2 (by omega) (by omega) m5 m4 (by omega)
    cases hfm : fldsM L t n n 0 64 with
    | mk o ats =>
    rw [hfm] at f2 hrF
    cases o with
    | some q =>
      simp only at f2 hrF
      subst f2
      have hr : rdV L = .tup [.d (.sl 0 false []), .d (.i .i64 (q : Nat)), .d (.i .i64 92)] := by unfold rdV; rw [hrF]
      have hge : (0 : Int) ≤ q := by omega
      simp [F178_elf_Read, hlenb, h64', fillV, lay, reps, ofDs, ← hfb, hokb, hcsb, hpc, ← hs1, hqr, mkV, hhd, hqr2, f1, hr, hge]
    | none =>
    simp only at f2 hrF
    obtain ⟨rfl, k3, vE, vA, tE, tA, hro3, hE, hA, hal⟩ := f2
    have hqr3 : s3.row 1 = some [.ptr 0 0] := (row_of_heap (k3.heap 1 (row_lt hqr2) (by decide))).trans hqr2
    obtain ⟨_, hft⟩ := fldsM_fit m5 hfm m4 rfl
    have hbe := fldsM_ok hfm
    have hfit : ∀ k b, ats[k]? = some b → 0 < k → b + fv (entAt L t k) 5 ≤ t := fun k b hb hk => by
      have := (hft k b hb).2.2
      rw [Nat.zero_add] at this
      exact this hk
    have hbe' : ∀ k b, ats[k]? = some b → badEnt t k b (decide (k + 1 = n)) (entAt L t k) = none := fun k b hb => by
      have := hbe k b hb
      rw [Nat.zero_add] at this
      exact this
    have hpd := den_padding hp (st := s3) (n := n) hro3 hE hA hal (by omega) (by omega) m5 (by omega) (by omega) hfit
    cases hpm : padM L t ats (n - 1) 1 with
    | some q =>
      rw [hpm] at hpd hrF
      simp only at hpd hrF
      have hr : rdV L = .tup [.d (.sl 0 false []), .d (.i .i64 (q : Nat)), .d (.i .i64 93)] := by unfold rdV; rw [hrF]
      have hge : (0 : Int) ≤ q := by omega
      simp [F178_elf_Read, hlenb, h64', fillV, lay, reps, ofDs, ← hfb, hokb, hcsb, hpc, ← hs1, hqr, mkV, hhd, hqr2, f1, hr, hge, hqr3, hpd]
    | none =>
    rw [hpm] at hpd hrF
    simp only at hpd hrF
    have hfl3 : s3.floor = 0 := k3.floor.trans hfl2
    have htf3 : s3.tfloor = 0 := k3.tfloor.trans htf2
    obtain ⟨nv, s4, g1, g2⟩ := den_names hp hs hq (st := s3) (p := 0) (t := t) (n := n) (L := L) hfl3 htf3 hro3 hE hA hal (by omega) (by omega) (by omega) (by omega) hfit
    cases hnr : namesR L t n ats with
    | inl b =>
      rw [hnr] at g2 hrF
      simp only at g2 hrF
      subst g2
      have hr : rdV L = .tup [.d (.sl 0 false []), .d (.i .i64 (b : Nat)), .d (.i .i64 92)] := by unfold rdV; rw [hrF]
      have hge : (0 : Int) ≤ b := by omega
      simp [F178_elf_Read, hlenb, h64', fillV, lay, reps, ofDs, ← hfb, hokb, hcsb, hpc, ← hs1, hqr, mkV, hhd, hqr2, f1, hr, hge, hqr3, hpd, g1]
    | inr out =>
    rw [hnr] at g2 hrF
    simp only at g2 hrF
    obtain ⟨Tn, rfl, hol, k4⟩ := g2
    have hro4 := (row_of_heap (k4.heap 0 (row_lt hro3) (fun h => h))).trans hro3
    have hqr4 := (row_of_heap (k4.heap 1 (row_lt hqr3) (fun h => h))).trans hqr3
    have h14 := row_lt hqr4
    obtain ⟨s5, hs5⟩ : ∃ s5, s5 = ({ s4 with tips := s4.tips ++ [0] } : St) := ⟨_, rfl⟩
    have hh5 : s5.heap = s4.heap := by rw [hs5]
    have hfl5 : s5.floor ≤ s5.heap.length := by rw [hs5]; simp [k4.floor.trans hfl3]
    obtain ⟨s6, hs6⟩ : ∃ s6, s6 = s5.push (.row [.d (.i .i64 1)]) := ⟨_, rfl⟩
    have hro6 := (show s6.row 0 = s4.row 0 by rw [hs6, row_push_old (by rw [hh5]; omega)]; exact row_of_heap (by rw [hh5])).trans hro4
    have hqr6 := (show s6.row 1 = s4.row 1 by rw [hs6, row_push_old (by rw [hh5]; omega)]; exact row_of_heap (by rw [hh5])).trans hqr4
    have hcr6 : s6.row s5.heap.length = some [.d (.i .i64 1)] := by rw [hs6]; exact row_push_new rfl
    obtain ⟨e, s7, q1, q2, q3⟩ := read_in hp (st := s6) (p := 0) (q := 1) (c := s5.heap.length) (t := t) (n := n) (T := s4.tips.length) (Tn := Tn) (L := L) (ats := ats) (out := out) (by rw [hs6, hs5]; exact k4.floor.trans hfl3) (by rw [hs6, hs5]; exact k4.tfloor.trans htf3) hro6 hqr6 hcr6 (by rw [hh5]; omega) (by rw [hh5]; omega) hE hA hal (by omega) (by omega) (by omega) (by omega) hfit hbe' hol (by rw [hs6, hs5]; simp)
    have hr : rdV L = .tup [secV (secsR L t ats out (n - 2)) (decide (0 < n - 2)), .d (.i .i64 0), .d (.i .i64 0)] := by unfold rdV; rw [hrF]; simp [secsR]
    have hsl : (secsR L t ats out (n - 2)).length = n - 2 := by simp [secsR]
    simp [F178_elf_Read, hlenb, h64', fillV, lay, reps, ofDs, ← hfb, hokb, hcsb, hpc, ← hs1, hqr, mkV, hhd, hqr2, f1, hr, hqr3, hpd, g1, ← hs5, hfl5, ← hs6, q1, q2, secV, hsl]
end
end Go.Sh
