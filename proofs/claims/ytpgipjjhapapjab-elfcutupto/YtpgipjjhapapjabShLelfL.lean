/- Sections read: the names. -/
import Derived.Test.YtpgipjjhapapjabShLelf2
set_option linter.unusedVariables false
set_option linter.unusedSimpArgs false
namespace Go.Sh
/-- Places that were seen, and where. -/
def entsI (l : List (Nat × Nat)) : List (D × V) := l.map fun p => (.i .i64 (p.1 : Int), .d (.i .i64 (p.2 : Int)))
def seenI (l : List (Nat × Nat)) (x : Nat) : Bool := l.any fun p => p.1 == x
theorem findE_entsI (x : Nat) : ∀ l : List (Nat × Nat), ∃ o, findE (.i .i64 (x : Int)) (entsI l) = some o ∧ o.isSome = seenI l x ∧ ∀ v, o = some v → ∃ k : Nat, v = .d (.i .i64 (k : Int))
  | [] => ⟨none, rfl, rfl, fun v h => by cases h⟩
  | (p, k) :: r => by
    by_cases h : p = x
    · subst h
      exact ⟨some (.d (.i .i64 (k : Int))), by simp [entsI, findE, eqD], by simp [seenI], fun v hv => ⟨k, by cases hv; rfl⟩⟩
    · obtain ⟨o, h1, h2, h3⟩ := findE_entsI x r
      have h' : ((x : Int) == (p : Int)) = false := by simpa using fun e : (x : Int) = p => h (by omega)
      refine ⟨o, ?_, ?_, h3⟩
      · simp only [entsI, List.map_cons, findE, eqD, if_true, h'] at h1 ⊢
        exact h1
      · rw [h2]
        simp [seenI, h]
theorem setE_entsI (x k : Nat) : ∀ l : List (Nat × Nat), seenI l x = false → setE (.i .i64 (x : Int)) (.d (.i .i64 (k : Int))) (entsI l) = some (entsI (l ++ [(x, k)]))
  | [], _ => rfl
  | (p, j) :: r, h => by
    simp only [seenI, List.any_cons, Bool.or_eq_false_iff, beq_eq_false_iff_ne] at h
    have h' : ((x : Int) == (p : Int)) = false := by simpa using fun e : (x : Int) = p => h.1 (by omega)
    have := setE_entsI x k r h.2
    simp only [entsI, List.map_cons, List.cons_append, setE, eqD, if_true, h'] at this ⊢
    rw [this]
    rfl
def nmOf (ns : List Nm) (pl : Nat) : Option Nm := if pl = 0 then none else nmAt pl 1 ns
/-- The names of the entries from k on: where it ends ill, or the names and where the next would stand. -/
def namesM (ns : List Nm) (L : List UInt8) (t n : Nat) : Nat → Nat → List (Nat × Nat) → Nat → List Nm → Nat ⊕ (List Nm × Nat)
  | 0, _, _, nx, out => .inr (out, nx)
  | m + 1, k, sl, nx, out => match nmOf ns (fv (entAt L t k) 0) with
    | none => .inl (t + 64 * k)
    | some s => if (seenI sl (fv (entAt L t k) 0) = false ∧ fv (entAt L t k) 0 ≠ nx) ∨ (k + 1 = n ∧ s ≠ ownNm) then .inl (t + 64 * k) else
      if seenI sl (fv (entAt L t k) 0) = true then namesM ns L t n m (k + 1) sl nx (out ++ [s]) else namesM ns L t n m (k + 1) (sl ++ [(fv (entAt L t k) 0, k)]) (fv (entAt L t k) 0 + s.length + 1) (out ++ [s])
theorem getD_lt (L : List UInt8) : getN (L.take 4) < 4294967296 := Nat.lt_of_lt_of_le (getN_lt _) (Nat.pow_le_pow_right (by decide) (by rw [List.length_take]; omega) : 256 ^ _ ≤ 256 ^ 4)
theorem fv0_lt (L : List UInt8) (t k : Nat) : fv (entAt L t k) 0 < 4294967296 := by
  have h : (entAt L t k)[0]? = some (4, getN (((((L.take (t + 64 * k + 64)).drop (t + 64 * k)).drop 0)).take 4)) := toldF_get (ws := entW) rfl
  unfold fv
  rw [List.getD_eq_getElem?_getD, h]
  exact getD_lt _
section
variable {pr : Prog} (hp : Sub elfFns pr) (hs : Sub strsFns pr)
include hs
theorem names_in {st st' : St} {p q m tn tp mid T t n : Nat} {L : List UInt8} {ns : List Nm} {vb vE vA : V} {tE : Nat} (hro : st.row p = some [vb, .d (.i .i64 (t : Nat)), vE, vA]) (hE : NL st' vE tE ((entsTo L t n).map entD)) (hT : Tbl st q m tn tp ns) (hend : endAt 1 ns ≤ 1099511627776)
    (hmap : st.mapOf mid = some []) (hti : st.tips[T]? = some 0) (hpm : p ≠ mid) (hqm : q ≠ mid) (hmm : m ≠ mid) (htt : ns ≠ [] → tn ≠ T ∧ tp ≠ T) (hn2 : 2 ≤ n) (hn18 : n ≤ 18) (ht : t ≤ 1099511627776) :
    ∃ r, cden pr (.loop [0, 4, 5, 8, 9, 10, 11] false F194_elf_file_names_b0) [(0, .ptr p 0), (4, .d (.i .i64 ((n - 1 : Nat) : Int))), (5, .ptr q 0), (8, .own 1 0 false [] T), (9, .map mid), (10, .d (.i .i64 1)), (11, .d (.i .i64 1))] st = some r ∧
      ((∃ e s out nx, r = (.exit 0, e, s) ∧ e.get 0 = some (.ptr p 0) ∧ e.get 4 = some (.d (.i .i64 ((n - 1 : Nat) : Int))) ∧ e.get 8 = some (.own 1 (n - 1) true (out.map .s) T) ∧ e.get 10 = some (.d (.i .i64 (nx : Nat))) ∧ s.tips[T]? = some (n - 1) ∧ out.length = n - 1 ∧ Kp st s (fun i => i = mid) (fun u => u = T) ∧ namesM ns L t n (n - 1) 1 [] 1 [] = .inr (out, nx)) ∨
        ∃ e s b, r = (.ret, e, s) ∧ e.get 2 = some (.d (.sl 0 false [])) ∧ e.get 3 = some (.d (.i .i64 (b : Nat))) ∧ namesM ns L t n (n - 1) 1 [] 1 [] = .inl b) := by
  obtain ⟨J2, hJ2⟩ : ∃ J2 : Out → Prop, ∀ r, J2 r ↔ ((∃ e s out nx, r = (.exit 0, e, s) ∧ e.get 0 = some (.ptr p 0) ∧ e.get 4 = some (.d (.i .i64 ((n - 1 : Nat) : Int))) ∧ e.get 8 = some (.own 1 (n - 1) true (out.map .s) T) ∧ e.get 10 = some (.d (.i .i64 (nx : Nat))) ∧ s.tips[T]? = some (n - 1) ∧ out.length = n - 1 ∧ Kp st s (fun i => i = mid) (fun u => u = T) ∧ namesM ns L t n (n - 1) 1 [] 1 [] = .inr (out, nx)) ∨
        ∃ e s b, r = (.ret, e, s) ∧ e.get 2 = some (.d (.sl 0 false [])) ∧ e.get 3 = some (.d (.i .i64 (b : Nat))) ∧ namesM ns L t n (n - 1) 1 [] 1 [] = .inl b) := ⟨_, fun _ => Iff.rfl⟩
  suffices h : ∃ r, cden pr (.loop [0, 4, 5, 8, 9, 10, 11] false F194_elf_file_names_b0) [(0, .ptr p 0), (4, .d (.i .i64 ((n - 1 : Nat) : Int))), (5, .ptr q 0), (8, .own 1 0 false [] T), (9, .map mid), (10, .d (.i .i64 1)), (11, .d (.i .i64 1))] st = some r ∧ J2 r by
    obtain ⟨r, h1, h2⟩ := h
    exact ⟨r, h1, (hJ2 r).1 h2⟩
  obtain ⟨J, hJ⟩ : ∃ J : Nat → Env → St → Prop, ∀ m' e s, J m' e s ↔ ∃ (k : Nat) (sl : List (Nat × Nat)) (nx : Nat) (out : List Nm), m' + k = n ∧ 1 ≤ k ∧ e = [(0, .ptr p 0), (4, .d (.i .i64 ((n - 1 : Nat) : Int))), (5, .ptr q 0), (8, .own 1 out.length (decide (0 < out.length)) (out.map .s) T), (9, .map mid), (10, .d (.i .i64 (nx : Nat))), (11, .d (.i .i64 (k : Nat)))] ∧
      Kp st s (fun i => i = mid) (fun u => u = T) ∧ s.mapOf mid = some (entsI sl) ∧ s.tips[T]? = some out.length ∧ out.length = k - 1 ∧ namesM ns L t n (n - 1) 1 [] 1 [] = namesM ns L t n m' k sl nx out := ⟨_, fun _ _ _ => Iff.rfl⟩
  refine loop_j J ?_ (n := n - 1) ((hJ _ _ _).2 ⟨1, [], 1, [], by omega, Nat.le_refl _, by simp, .refl _ _ _, hmap, hti, rfl, rfl⟩)
  intro m' e s hj
  obtain ⟨k, sl, nx, out, hm', hk1, rfl, hkp, hmp, hT1, hol, hnm⟩ := (hJ _ _ _).1 hj
  have hro' : s.row p = some [vb, .d (.i .i64 (t : Nat)), vE, vA] := (row_of_heap (hkp.heap p (row_lt hro) hpm)).trans hro
  have hTb : Tbl s q m tn tp ns := hT.keep hkp hqm hmm htt
  rcases Nat.lt_or_ge k n with h | h
  rotate_left
  · obtain rfl : k = n := by omega
    obtain rfl : m' = 0 := by omega
    have hgt : ¬ (k : Int) ≤ ((k - 1 : Nat) : Int) := by omega
    have hnz : decide (0 < out.length) = true := by simp; omega
    simp [F194_elf_file_names_b0, hgt]
    refine (hJ2 _).2 (.inl ⟨_, _, out, nx, rfl, by simp, by simp, by simp [hol]; omega, by simp, by rw [hT1, hol], hol, hkp, ?_⟩)
    rw [hnm]
    rfl
  obtain ⟨m1, rfl⟩ : ∃ m1, m' = m1 + 1 := ⟨m' - 1, by omega⟩
  obtain ⟨F, hF⟩ : ∃ F, F = entAt L t k := ⟨_, rfl⟩
  obtain ⟨pl, hpl⟩ : ∃ pl, pl = fv F 0 := ⟨_, rfl⟩
  have hpl32 : pl < 4294967296 := by rw [hpl, hF]; exact fv0_lt _ _ _
  have hFl : F.length = 10 := by rw [hF]; exact entAt_len _ _ _
  obtain ⟨g1, g2⟩ := hE.get (i := k) (x := entD F) (by simp [entsTo, h, hF]) (k := .i64)
  obtain ⟨fa, f1, fb, f2, f3⟩ := fv_load hFl (i := 0) (by decide)
  rw [← hpl] at f3
  have f1' : iaddrV 2 (.d (entD F)) (.d (.i .i64 0)) = some fa := f1
  have w1 : IntKind.wrap .i64 (pl : Int) = pl := wrap_i64 (by omega) (by omega)
  have hle : (k : Int) ≤ ((n - 1 : Nat) : Int) := by omega
  have h1 : IntKind.wrap .i64 ((k : Int) + 1) = ((k + 1 : Nat) : Int) := by rw [wrap_i64 (by omega) (by omega)]; omega
  have w2 : IntKind.wrap .i64 (64 * (k : Int)) = 64 * (k : Int) := wrap_i64 (by omega) (by omega)
  have w3 : IntKind.wrap .i64 ((t : Int) + 64 * (k : Int)) = ((t + 64 * k : Nat) : Int) := by rw [wrap_i64 (by omega) (by omega)]; omega
  have hAt := den_At hs hTb (pl : Int) hend
  obtain ⟨o, o1, o2, o3⟩ := findE_entsI pl sl
  simp only [namesM, ← hF, ← hpl] at hnm
  have hatI : atI (pl : Int) ns = nmAt pl 1 ns := by
    unfold atI
    rw [if_neg (by omega), Int.toNat_natCast]
  rw [hatI] at hAt
  have hret : ∀ e s, e.get 2 = some (.d (.sl 0 false [])) → e.get 3 = some (.d (.i .i64 ((t + 64 * k : Nat) : Int))) → namesM ns L t n (n - 1) 1 [] 1 [] = .inl (t + 64 * k) → J2 (.ret, e, s) := fun e s h2 h3 h4 => (hJ2 _).2 (.inr ⟨e, s, _, rfl, h2, h3, h4⟩)
  obtain ⟨rt, hrt⟩ : ∃ rt : Int, rt = ((t + 64 * k : Nat) : Int) := ⟨_, rfl⟩
  rw [← hrt] at hret w3
  have hlk : lookV false true (.d (.i .i64 0)) s (.map mid) (.d (.i .i64 (pl : Int))) = some (.tup [o.getD (.d (.i .i64 0)), .d (.b (seenI sl pl))]) := by
    simp [lookV, keyOk, hmp, o1, lookOut, o2]
  by_cases hp0 : pl = 0
  · have hno : nmOf ns pl = none := by simp [nmOf, hp0]
    rw [hno] at hnm
    have hAt0 : den pr 144 [.ptr q 0, .d (.i .i64 (pl : Int))] s = some (.tup [.d (.s []), .d (.i .i64 0)], s) := by rw [hAt]; simp [hp0]
    simp [F194_elf_file_names_b0, hle, hro', mkV, g1, g2, f1', f2, f3, w1, hAt0, zeroV, hlk, w2, w3]
    exact hret _ _ (by simp) (by simp) hnm
  have hp0' : ¬ (pl : Int) = 0 := by omega
  cases hna : nmAt pl 1 ns with
  | none =>
    have hno : nmOf ns pl = none := by simp [nmOf, hp0, hna]
    rw [hno] at hnm
    have hAt0 : den pr 144 [.ptr q 0, .d (.i .i64 (pl : Int))] s = some (.tup [.d (.s []), .d (.i .i64 81)], s) := by rw [hAt, hna]; simp [hp0', hp0]
    simp [F194_elf_file_names_b0, hle, hro', mkV, g1, g2, f1', f2, f3, w1, hAt0, zeroV, hlk, w2, w3]
    exact hret _ _ (by simp) (by simp) hnm
  | some x =>
    have hno : nmOf ns pl = some x := by simp [nmOf, hp0, hna]
    rw [hno] at hnm
    simp only at hnm
    obtain ⟨ix, hx1, _⟩ := nmAt_some hna
    have hxl := okNm_len (hTb.ok x (List.mem_of_getElem? hx1))
    have hxe : ¬ x = [] := fun e => by rw [e] at hxl; simp at hxl
    have hAt0 : den pr 144 [.ptr q 0, .d (.i .i64 (pl : Int))] s = some (.tup [.d (.s x), .d (.i .i64 0)], s) := by rw [hAt, hna]; simp [hp0', hp0]
    obtain ⟨kn, hkn⟩ : ∃ kn, kn = seenI sl pl := ⟨_, rfl⟩
    rw [← hkn] at hlk hnm
    have hxb : (x == []) = false := by simpa using hxe
    have hfk : ((k : Int) = ((n - 1 : Nat) : Int)) ↔ k + 1 = n := by omega
    -- the rest of a round that goes on
    have happ : ∀ s2 : St, s2.tips = s.tips → s2.tfloor = s.tfloor → appV 1 16 s2 (.own 1 out.length (decide (0 < out.length)) (out.map .s) T) (.d (.sl 1 true [.s x])) = some (.own 1 (out.length + 1) true ((out ++ [x]).map .s) T, { s2 with tips := s2.tips.set T (out.length + 1) }) := fun s2 e1 e2 => by
      have htf : s2.tfloor ≤ T := by rw [e2, hTb.tf]; omega
      have hb : (out.length + 1) * 16 ≤ 140737488355328 := by omega
      have hb2 : out.length + 1 ≤ 140737488355328 := by omega
      have ht2 : s2.tips[T]? = some out.length := by rw [e1]; exact hT1
      simp only [appV, vw, ht2]
      simp [htf, hb, hb2]
    have hTl : T < s.tips.length := (List.getElem?_eq_some_iff.1 hT1).1
    have go : ∀ s2 sl2 nx2, Kp st s2 (fun i => i = mid) (fun u => u = T) → s2.tips = s.tips → s2.mapOf mid = some (entsI sl2) → namesM ns L t n (n - 1) 1 [] 1 [] = namesM ns L t n m1 (k + 1) sl2 nx2 (out ++ [x]) →
        ∃ m0, m0 < m1 + 1 ∧ J m0 [(0, .ptr p 0), (4, .d (.i .i64 ((n - 1 : Nat) : Int))), (5, .ptr q 0), (8, .own 1 (out.length + 1) true ((out ++ [x]).map .s) T), (9, .map mid), (10, .d (.i .i64 (nx2 : Nat))), (11, .d (.i .i64 ((k + 1 : Nat) : Int)))] { s2 with tips := s2.tips.set T (out.length + 1) } := fun s2 sl2 nx2 c1 c2 c3 c4 => by
      refine ⟨m1, by omega, (hJ _ _ _).2 ⟨k + 1, sl2, nx2, out ++ [x], by omega, by omega, by simp, ?_, c3, ?_, by simp; omega, c4⟩⟩
      · refine c1.trans ⟨rfl, rfl, Nat.le_refl _, by simp, fun _ _ _ => rfl, fun u hu hne => ?_⟩
        simp only [List.getElem?_set]
        rw [if_neg fun e => hne e.symm]
      · have : T < s2.tips.length := by rw [c2]; exact hTl
        simp [this]
    have hmpid : mid < s.heap.length := map_lt hmp
    have hbad2 : k + 1 = n → x ≠ ownNm → (kn = true ∨ pl = nx) → JStep [0, 4, 5, 8, 9, 10, 11] (m1 + 1) J J2 (Option.map (cutR s false) (cden pr F194_elf_file_names_b0 [(0, .ptr p 0), (4, .d (.i .i64 ((n - 1 : Nat) : Int))), (5, .ptr q 0), (8, .own 1 out.length (decide (0 < out.length)) (out.map .s) T), (9, .map mid), (10, .d (.i .i64 (nx : Nat))), (11, .d (.i .i64 (k : Nat)))] (enterR s false))) := by
      intro hf hxo hkx
      have hf1 := eq_true (hfk.2 hf)
      have hf2 := eq_true (show k = n - 1 by omega)
      have hxo' : (x == [46, 115, 104, 115, 116, 114, 116, 97, 98]) = false := by simpa [ownNm] using hxo
      have hxo2 : ¬ x = [46, 115, 104, 115, 116, 114, 116, 97, 98] := hxo
      have hnm' : namesM ns L t n (n - 1) 1 [] 1 [] = .inl (t + 64 * k) := by rw [hnm]; simp only [if_pos (Or.inr ⟨hf, hxo⟩ : (kn = false ∧ pl ≠ nx) ∨ (k + 1 = n ∧ x ≠ ownNm))]
      rcases hkx with rfl | rfl
      · simp [F194_elf_file_names_b0, hle, hro', mkV, g1, g2, f1', f2, f3, w1, hAt0, zeroV, hlk, hxb, hxe, hf1, hf2, hxo', hxo2, w2, w3]
        exact hret _ _ (by simp) (by simp) hnm'
      · cases kn <;> simp [F194_elf_file_names_b0, hle, hro', mkV, g1, g2, f1', f2, f3, w1, hAt0, zeroV, hlk, hxb, hxe, hf1, hf2, hxo', hxo2, w2, w3]
        · exact hret _ _ (by simp) (by simp) hnm'
        · exact hret _ _ (by simp) (by simp) hnm'
    have hfx : ¬ (k + 1 = n ∧ x ≠ ownNm) → (¬ k = n - 1 ∧ ¬ (k : Int) = ((n - 1 : Nat) : Int)) ∨ ((x == [46, 115, 104, 115, 116, 114, 116, 97, 98]) = true) := by
      intro hc
      by_cases hf : k + 1 = n
      · right
        have : x = ownNm := Classical.byContradiction fun e => hc ⟨hf, e⟩
        rw [this]
        rfl
      · exact .inl ⟨by omega, by omega⟩
    cases kn with
    | true =>
      by_cases hb2 : k + 1 = n ∧ x ≠ ownNm
      · exact hbad2 hb2.1 hb2.2 (.inl rfl)
      · have hnm' := hnm
        rw [if_neg (by rintro (⟨e, _⟩ | e); cases e; exact hb2 e), if_pos rfl] at hnm'
        have hgo := go s sl nx hkp rfl hmp hnm'
        have ha := happ s rfl rfl
        rcases hfx hb2 with ⟨c1, c2⟩ | c1
        · simp [F194_elf_file_names_b0, hle, hro', mkV, g1, g2, f1', f2, f3, w1, hAt0, zeroV, hlk, hxb, hxe, c1, c2, fillV, reps, lay, ofDs, toDs, toD, h1, ha]
          simpa using hgo
        · have c1' : x = [46, 115, 104, 115, 116, 114, 116, 97, 98] := by simpa using c1
          by_cases hf : k + 1 = n
          · have hf1 := eq_true (hfk.2 hf)
            have hf2 := eq_true (show k = n - 1 by omega)
            simp [F194_elf_file_names_b0, hle, hro', mkV, g1, g2, f1', f2, f3, w1, hAt0, zeroV, hlk, hxb, hxe, c1, hf1, hf2, fillV, reps, lay, ofDs, toDs, toD, h1, ha]
            simpa using hgo
          · have c2 : ¬ (k : Int) = ((n - 1 : Nat) : Int) := by omega
            have c3 : ¬ k = n - 1 := by omega
            simp [F194_elf_file_names_b0, hle, hro', mkV, g1, g2, f1', f2, f3, w1, hAt0, zeroV, hlk, hxb, hxe, c1, c2, c3, fillV, reps, lay, ofDs, toDs, toD, h1, ha]
            simpa using hgo
    | false =>
      by_cases hpn : pl = nx
      · subst hpn
        by_cases hb2 : k + 1 = n ∧ x ≠ ownNm
        · exact hbad2 hb2.1 hb2.2 (.inr rfl)
        · have hnm' := hnm
          rw [if_neg (by rintro (⟨_, e⟩ | e); exact e rfl; exact hb2 e), if_neg (by decide)] at hnm'
          have w4 : IntKind.wrap .i64 ((pl : Int) + (x.length : Int)) = (pl : Int) + (x.length : Int) := wrap_i64 (by omega) (by omega)
          have w5 : IntKind.wrap .i64 ((pl : Int) + (x.length : Int) + 1) = ((pl + x.length + 1 : Nat) : Int) := by rw [wrap_i64 (by omega) (by omega)]; omega
          have hms : mapSetV false s (.map mid) (.d (.i .i64 (pl : Int))) (.d (.i .i64 (k : Int))) = some (s.putM mid (entsI (sl ++ [(pl, k)]))) := by
            simp [mapSetV, keyOk, hmp, setE_entsI pl k sl hkn.symm, setBlk_putM hTb.fl]
          obtain ⟨s2, hs2⟩ : ∃ s2, s2 = s.putM mid (entsI (sl ++ [(pl, k)])) := ⟨_, rfl⟩
          rw [← hs2] at hms
          have hgo := go s2 (sl ++ [(pl, k)]) (pl + x.length + 1) (hkp.trans (by rw [hs2]; exact Kp.putM rfl)) (by rw [hs2]; rfl) (by rw [hs2]; exact mapOf_putM hmpid) hnm'
          have ha := happ s2 (by rw [hs2]; rfl) (by rw [hs2]; rfl)
          obtain ⟨nx2, hnx2⟩ : ∃ nx2 : Int, nx2 = ((pl + x.length + 1 : Nat) : Int) := ⟨_, rfl⟩
          rw [← hnx2] at w5 hgo
          rcases hfx hb2 with ⟨c1, c2⟩ | c1
          · simp [F194_elf_file_names_b0, hle, hro', mkV, g1, g2, f1', f2, f3, w1, hAt0, zeroV, hlk, hxb, hxe, c1, c2, fillV, reps, lay, ofDs, toDs, toD, h1, hms, w4, w5, ha]
            simpa using hgo
          · by_cases hf : k + 1 = n
            · have hf1 := eq_true (hfk.2 hf)
              have hf2 := eq_true (show k = n - 1 by omega)
              simp [F194_elf_file_names_b0, hle, hro', mkV, g1, g2, f1', f2, f3, w1, hAt0, zeroV, hlk, hxb, hxe, c1, hf1, hf2, fillV, reps, lay, ofDs, toDs, toD, h1, hms, w4, w5, ha]
              simpa using hgo
            · have c2 : ¬ (k : Int) = ((n - 1 : Nat) : Int) := by omega
              have c3 : ¬ k = n - 1 := by omega
              simp [F194_elf_file_names_b0, hle, hro', mkV, g1, g2, f1', f2, f3, w1, hAt0, zeroV, hlk, hxb, hxe, c1, c2, c3, fillV, reps, lay, ofDs, toDs, toD, h1, hms, w4, w5, ha]
              simpa using hgo
      · have hpn' : ¬ (pl : Int) = (nx : Int) := by omega
        have hnm' : namesM ns L t n (n - 1) 1 [] 1 [] = .inl (t + 64 * k) := by rw [hnm, if_pos (.inl ⟨rfl, hpn⟩)]
        simp [F194_elf_file_names_b0, hle, hro', mkV, g1, g2, f1', f2, f3, w1, hAt0, zeroV, hlk, hxb, hxe, hpn, hpn', w2, w3]
        exact hret _ _ (by simp) (by simp) hnm'
end
end Go.Sh
