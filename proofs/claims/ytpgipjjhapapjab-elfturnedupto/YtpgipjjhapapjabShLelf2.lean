/- Sections read: the header. -/
import Derived.Test.YtpgipjjhapapjabShLelf1
set_option linter.unusedVariables false
set_option linter.unusedSimpArgs false
namespace Go.Sh
def hdW : List Nat := (hdrF 0 2).map (·.1)
def hdT (L : List UInt8) : List Fld := toldF (L.take 64) hdW
def hv (L : List UInt8) (i : Nat) : Nat := ((hdT L).getD i (0, 0)).2
def roomI (L : List UInt8) : Int := (L.length : Int) - 64 * (hv L 14 : Int)
def wantB : List UInt8 := laidF (hdrF 0 2)
def headBad (L : List UInt8) (i : Nat) : Bool :=
  (decide (i = 40) && (decide (roomI L < 64) || decide ((hv L 8 : Int) ≠ roomI L) || decide (roomI L % 8 ≠ 0))) ||
  (decide (i = 60) && (decide (hv L 14 < 2) || decide (18 < hv L 14))) ||
  (decide (i = 62) && decide ((hv L 15 : Int) ≠ (hv L 14 : Int) - 1)) ||
  (!(decide (40 ≤ i ∧ i < 48) || decide (60 ≤ i)) && decide (L.getD i 0 ≠ wantB.getD i 0))
def headP (L : List UInt8) : Option Nat := (List.range 64).find? (headBad L)
theorem find_range {p : Nat → Bool} {n i : Nat} (hi : i < n) (h : ∀ j, j < i → p j = false) (hp : p i = true) : (List.range n).find? p = some i := by
  rw [List.find?_eq_some_iff_append]
  refine ⟨hp, List.range i, (List.range' (i + 1) (n - i - 1)), ?_, fun a ha => by simp [h a (List.mem_range.1 ha)]⟩
  rw [List.range_eq_range', List.range_eq_range', show i :: List.range' (i + 1) (n - i - 1) = List.range' i (n - i) by rw [show n - i = (n - i - 1) + 1 by omega, List.range'_succ]; simp]
  have := List.range'_append (s := 0) (m := i) (n := n - i) (step := 1)
  rw [show i + (n - i) = n by omega] at this
  simpa using this.symm
theorem find_range_none {p : Nat → Bool} {n : Nat} (h : ∀ j, j < n → p j = false) : (List.range n).find? p = none := by
  rw [List.find?_eq_none]
  intro x hx
  simp [h x (List.mem_range.1 hx)]
theorem hdT_get (L : List UInt8) : ∀ i w, hdW[i]? = some w → (hdT L)[i]? = some (w, getN (((L.take 64).drop (hdW.take i).sum).take w)) := fun i w h => toldF_get h
theorem hdT_len (L : List UInt8) : (hdT L).length = 16 := toldF_len _ _
theorem hv_lt (L : List UInt8) {i w : Nat} (h : hdW[i]? = some w) : hv L i < 256 ^ w := by
  have := hdT_get L i w h
  unfold hv
  rw [List.getD_eq_getElem?_getD, this]
  simp only [Option.getD_some]
  exact Nat.lt_of_lt_of_le (getN_lt _) (Nat.pow_le_pow_right (by decide) (by rw [List.length_take]; omega))
theorem wantB_len : wantB.length = 64 := by rw [wantB, laidF_len]; rfl
section
variable {pr : Prog} (hp : Sub elfFns pr)
omit hp in
theorem head_in {H : List (Option Blk)} {T : List Nat} {fl tf p : Nat} {L : List UInt8} (hpl : p < H.length) :
    ∃ e, cden pr (.loop [0, 3, 4, 5, 17, 18, 19] true F191_elf_file_head_b0) [(0, .ptr p 0), (3, .d (.i .u64 0)), (4, .d (.i .u64 0)), (5, .d (.i .u64 0)), (17, .d (.sl 16 true ((hdT L).map fldD).flatten)), (18, .d (.i .i64 16)), (19, .d (.i .i64 0))] (S H T [] [] fl tf) = some (.exit 0, e, S H T [] [] fl tf) ∧
      e.get 0 = some (.ptr p 0) ∧ e.get 3 = some (.d (.i .u64 (hv L 14 : Int))) ∧ e.get 4 = some (.d (.i .u64 (hv L 15 : Int))) ∧ e.get 5 = some (.d (.i .u64 (hv L 8 : Int))) := by
  obtain ⟨u, hu⟩ : ∃ u, u = V.d (.sl 16 true ((hdT L).map fldD).flatten) := ⟨_, rfl⟩
  have hd : SlD 2 u ((hdT L).map fldD) := by rw [hu]; exact ⟨fld_els _, true, by simp [hdT_len]⟩
  rw [← hu]
  obtain ⟨g3, g31, g32, g33, g34⟩ : ∃ g : Nat → Nat, (∀ i, i ≠ 14 → g (i + 1) = g i) ∧ g 15 = hv L 14 ∧ g 0 = 0 ∧ g 16 = hv L 14 := ⟨fun i => if 14 < i then hv L 14 else 0, fun i hi => by simp only; congr 1; rw [eq_iff_iff]; omega, by simp, by simp, by simp⟩
  obtain ⟨g4, g41, g42, g43⟩ : ∃ g : Nat → Nat, (∀ i, i ≠ 15 → g (i + 1) = g i) ∧ g 16 = hv L 15 ∧ g 0 = 0 := ⟨fun i => if 15 < i then hv L 15 else 0, fun i hi => by simp only; congr 1; rw [eq_iff_iff]; omega, by simp, by simp⟩
  obtain ⟨g5, g51, g52, g53, g54⟩ : ∃ g : Nat → Nat, (∀ i, i ≠ 8 → g (i + 1) = g i) ∧ g 9 = hv L 8 ∧ g 0 = 0 ∧ g 16 = hv L 8 := ⟨fun i => if 8 < i then hv L 8 else 0, fun i hi => by simp only; congr 1; rw [eq_iff_iff]; omega, by simp, by simp, by simp⟩
  generalize hO : cden pr (.loop _ _ _) _ _ = o
  obtain ⟨r, rfl, hQ⟩ : ∃ r, o = some r ∧ ∃ e, r = (.exit 0, e, S H T [] [] fl tf) ∧ e.get 0 = some (.ptr p 0) ∧ e.get 3 = some (.d (.i .u64 (hv L 14 : Int))) ∧ e.get 4 = some (.d (.i .u64 (hv L 15 : Int))) ∧ e.get 5 = some (.d (.i .u64 (hv L 8 : Int))) := by
    rw [← hO]
    refine loop_n 16 (fun i => [(0, .ptr p 0), (3, .d (.i .u64 (g3 i : Int))), (4, .d (.i .u64 (g4 i : Int))), (5, .d (.i .u64 (g5 i : Int))), (17, u), (18, .d (.i .i64 16)), (19, .d (.i .i64 i))]) (fun _ => S H T [] [] fl tf) ?_ (by simp [g33, g43, g53]) rfl
    intro i hi
    rcases Nat.lt_or_ge i 16 with h | h
    · obtain ⟨f, hf⟩ : ∃ f, (hdT L)[i]? = some f := ⟨_, List.getElem?_eq_getElem (by rw [hdT_len]; exact h)⟩
      obtain ⟨w, y⟩ := f
      have h1 : IntKind.wrap .i64 ((i : Int) + 1) = i + 1 := wrap_i64 (by omega) (by omega)
      have hia := hd.iaddr (i := (i : Int)) (k := .i64) (by omega) (by simp [hdT_len]; omega)
      simp only [Int.toNat_natCast] at hia
      have hld : ∀ s, loadV 2 true s (elP 2 u i 0) = some (.agg (ofDs (fldD (w, y)))) := fun s => by
        rw [hd.load (el := fldD (w, y)) (by simp [hf]) (by omega) (by omega)]
        rfl
      have hy : hv L i = y := by unfold hv; rw [List.getD_eq_getElem?_getD, hf]; rfl
      have hsb := fun c b ts => S_setBlk0 (H := H) (T := T) (bs := [c]) (ts := ts) (fl := H.length) (tf := tf) (b := b) (Nat.le_refl _)
      simp only [fldD, ofDs, List.map_cons, List.map_nil] at hld
      by_cases c8 : i = 8
      · subst c8
        have hia' : iaddrV 2 u (.d (.i .i64 8)) = some (elP 2 u 8 0) := hia
        have k3 := g31 8 (by decide)
        have k4 := g41 8 (by decide)
        simp [F191_elf_file_head_b0, hia', hld, hd.esc, ofDs, lay, hsb, mkV, h1, hpl, g52, hy, k3, k4]
        exact wrap_i64 (by decide) (by decide)
      by_cases c14 : i = 14
      · subst c14
        have hia' : iaddrV 2 u (.d (.i .i64 14)) = some (elP 2 u 14 0) := hia
        have k4 := g41 14 (by decide)
        have k5 := g51 14 (by decide)
        simp [F191_elf_file_head_b0, hia', hld, hd.esc, ofDs, lay, hsb, mkV, h1, hpl, g32, hy, k4, k5]
        exact wrap_i64 (by decide) (by decide)
      by_cases c15 : i = 15
      · subst c15
        have hia' : iaddrV 2 u (.d (.i .i64 15)) = some (elP 2 u 15 0) := hia
        have k3 := g31 15 (by decide)
        have k5 := g51 15 (by decide)
        simp [F191_elf_file_head_b0, hia', hld, hd.esc, ofDs, lay, hsb, mkV, h1, hpl, g42, hy, k3, k5]
        exact wrap_i64 (by decide) (by decide)
      have n8 : ¬ (i : Int) = 8 := by omega
      have n14 : ¬ (i : Int) = 14 := by omega
      have n15 : ¬ (i : Int) = 15 := by omega
      have hlt : (i : Int) < 16 := by omega
      simp [F191_elf_file_head_b0, hia, hld, hd.esc, ofDs, lay, hsb, mkV, h1, hpl, n8, n14, n15, hlt, h, g31 i c14, g41 i c15, g51 i c8]
    · obtain rfl : i = 16 := by omega
      simp [F191_elf_file_head_b0, hd.esc, hpl, g34, g42, g54]
  obtain ⟨e, rfl, h0⟩ := hQ
  exact ⟨e, rfl, h0⟩
omit hp in
theorem head_bytes {st : St} {p : Nat} {L : List UInt8} {nz : Bool} {tb es as : V} {wv : V} (hw : wv = bsl true wantB) (hro : st.row p = some [bsl nz L, tb, es, as]) (hL : 64 ≤ L.length) (hL' : L.length ≤ 2199023255552) :
    ∃ r, cden pr (.loop [0, 3, 4, 5, 8, 9, 49] false F191_elf_file_head_b1) [(0, .ptr p 0), (3, .d (.i .u64 (hv L 14 : Int))), (4, .d (.i .u64 (hv L 15 : Int))), (5, .d (.i .u64 (hv L 8 : Int))), (8, wv), (9, .d (.i .i64 (roomI L))), (49, .d (.i .i64 0))] st = some r ∧
      ((∃ e, r = (.exit 3, e, st) ∧ e.get 0 = some (.ptr p 0) ∧ e.get 9 = some (.d (.i .i64 (roomI L))) ∧ headP L = none) ∨ ∃ e i, r = (.ret, e, st) ∧ e.get 2 = some (.d (.i .i64 (i : Nat))) ∧ headP L = some i) := by
  subst hw
  obtain ⟨J2, hJ2⟩ : ∃ J2 : Out → Prop, ∀ r, J2 r ↔ ((∃ e, r = (.exit 3, e, st) ∧ e.get 0 = some (.ptr p 0) ∧ e.get 9 = some (.d (.i .i64 (roomI L))) ∧ headP L = none) ∨ ∃ e i, r = (.ret, e, st) ∧ e.get 2 = some (.d (.i .i64 (i : Nat))) ∧ headP L = some i) := ⟨_, fun _ => Iff.rfl⟩
  suffices h : ∃ r, cden pr (.loop [0, 3, 4, 5, 8, 9, 49] false F191_elf_file_head_b1) [(0, .ptr p 0), (3, .d (.i .u64 (hv L 14 : Int))), (4, .d (.i .u64 (hv L 15 : Int))), (5, .d (.i .u64 (hv L 8 : Int))), (8, bsl true wantB), (9, .d (.i .i64 (roomI L))), (49, .d (.i .i64 0))] st = some r ∧ J2 r by
    obtain ⟨r, h1, h2⟩ := h
    exact ⟨r, h1, (hJ2 r).1 h2⟩
  have hn : hv L 14 < 65536 := hv_lt L (w := 2) rfl
  have hroom : roomI L = (L.length : Int) - 64 * (hv L 14 : Int) := rfl
  obtain ⟨n, hn'⟩ : ∃ n, n = hv L 14 := ⟨_, rfl⟩
  obtain ⟨la, hla⟩ : ∃ la, la = hv L 15 := ⟨_, rfl⟩
  obtain ⟨ta, hta⟩ : ∃ ta, ta = hv L 8 := ⟨_, rfl⟩
  obtain ⟨ro, hr⟩ : ∃ ro, ro = roomI L := ⟨_, rfl⟩
  have hbadD : ∀ i, headBad L i = ((decide (i = 40) && (decide (ro < 64) || decide ((ta : Int) ≠ ro) || decide (ro % 8 ≠ 0))) ||
    (decide (i = 60) && (decide (n < 2) || decide (18 < n))) || (decide (i = 62) && decide ((la : Int) ≠ (n : Int) - 1)) || (!(decide (40 ≤ i ∧ i < 48) || decide (60 ≤ i)) && decide (L.getD i 0 ≠ wantB.getD i 0))) := fun i => by rw [hn', hla, hta, hr]; rfl
  rw [← hn', ← hla, ← hta, ← hr]
  rw [← hr] at hroom
  rw [← hn'] at hn hroom
  obtain ⟨J, hJ⟩ : ∃ J : Nat → Env → St → Prop, ∀ m e s, J m e s ↔ ∃ i, m + i = 64 ∧ e = [(0, .ptr p 0), (3, .d (.i .u64 (n : Int))), (4, .d (.i .u64 (la : Int))), (5, .d (.i .u64 (ta : Int))), (8, bsl true wantB), (9, .d (.i .i64 ro)), (49, .d (.i .i64 (i : Nat)))] ∧ s = st ∧ ∀ j, j < i → headBad L j = false := ⟨_, fun _ _ _ => Iff.rfl⟩
  refine loop_j J ?_ (n := 64) ((hJ _ _ _).2 ⟨0, rfl, rfl, rfl, fun j hj => by omega⟩)
  intro m e s hj
  obtain ⟨i, hm, rfl, rfl, hok⟩ := (hJ _ _ _).1 hj
  have hi : i ≤ 64 := by omega
  have hret : ∀ e, e.get 2 = some (.d (.i .i64 (i : Int))) → i < 64 → headBad L i = true → J2 (.ret, e, s) := fun e he hi hb => (hJ2 _).2 (.inr ⟨e, i, rfl, he, find_range hi hok hb⟩)
  have h1 : i < 64 → IntKind.wrap .i64 ((i : Int) + 1) = ((i + 1 : Nat) : Int) := fun _ => by rw [wrap_i64 (by omega) (by omega)]; omega
  have hnext : i < 64 → headBad L i = false → ∃ m', m' < m ∧ J m' [(0, .ptr p 0), (3, .d (.i .u64 (n : Int))), (4, .d (.i .u64 (la : Int))), (5, .d (.i .u64 (ta : Int))), (8, bsl true wantB), (9, .d (.i .i64 ro)), (49, .d (.i .i64 ((i + 1 : Nat) : Int)))] s := fun hi hb => ⟨m - 1, by omega, (hJ _ _ _).2 ⟨i + 1, by omega, rfl, rfl, fun j hj => by
    rcases Nat.lt_or_ge j i with h | h
    · exact hok j h
    · obtain rfl : j = i := by omega
      exact hb⟩⟩
  rcases Nat.lt_or_ge i 64 with h | h
  rotate_left
  · obtain rfl : i = 64 := by omega
    simp [F191_elf_file_head_b1]
    exact (hJ2 _).2 (.inl ⟨_, rfl, by simp, by simp [hr], find_range_none hok⟩)
  have hlt : (i : Int) < 64 := by omega
  have h1 := h1 h
  have hnext := hnext h
  have hret := fun e he hb => hret e he h hb
  have hbad := hbadD i
  by_cases c40 : i = 40
  · subst c40
    by_cases d1 : ro < 64
    · have hb : headBad L 40 = true := by rw [hbad]; simp [d1]
      simp [F191_elf_file_head_b1, d1]
      exact hret _ (by simp) hb
    · have hu : IntKind.wrap .u64 ro = ro := by rw [wrapE64]; omega
      by_cases d2 : (ta : Int) = ro
      · by_cases d3 : ro % 8 = 0
        · have hb : headBad L 40 = false := by rw [hbad]; simp [d1, d2, d3]
          have d3' : ro.tmod 8 = 0 := by rw [Int.tmod_eq_emod_of_nonneg (by omega)]; exact d3
          have hx := hnext hb
          simp [F191_elf_file_head_b1, d1, hu, d2, d3']
          rw [show IntKind.wrap .i64 41 = 41 from h1]
          simpa [d2] using hx
        · have hb : headBad L 40 = true := by rw [hbad]; simp [d1, d2, d3]
          have d3' : ¬ ro.tmod 8 = 0 := by rw [Int.tmod_eq_emod_of_nonneg (by omega)]; exact d3
          simp [F191_elf_file_head_b1, d1, hu, d2, d3']
          exact hret _ (by simp) hb
      · have hb : headBad L 40 = true := by rw [hbad]; simp [d1, d2]
        simp [F191_elf_file_head_b1, d1, hu, d2]
        exact hret _ (by simp) hb
  have n40 : ¬ (i : Int) = 40 := by omega
  by_cases c60 : i = 60
  · subst c60
    by_cases d1 : n < 2
    · have hb : headBad L 60 = true := by rw [hbad]; simp [d1]
      have d1' : (n : Int) < 2 := by omega
      simp [F191_elf_file_head_b1, d1']
      exact hret _ (by simp) hb
    · have d1' : ¬ (n : Int) < 2 := by omega
      by_cases d2 : 18 < n
      · have hb : headBad L 60 = true := by rw [hbad]; simp [d2]
        have d2' : (18 : Int) < (n : Int) := by omega
        simp [F191_elf_file_head_b1, d1', d2']
        exact hret _ (by simp) hb
      · have hb : headBad L 60 = false := by rw [hbad]; simp [d1, d2]
        have d2' : ¬ (18 : Int) < (n : Int) := by omega
        have hx := hnext hb
        simp [F191_elf_file_head_b1, d1', d2']
        rw [show IntKind.wrap .i64 61 = 61 from h1]
        simpa using hx
  have n60 : ¬ (i : Int) = 60 := by omega
  by_cases c62 : i = 62
  · subst c62
    have h60 := hok 60 (by decide)
    rw [hbadD] at h60
    have hn2 : 2 ≤ n := by
      by_cases hc : n < 2
      · simp [hc] at h60
      · omega
    have hw : IntKind.wrap .u64 ((n : Int) - 1) = (n : Int) - 1 := by rw [wrapE64]; omega
    by_cases d1 : (la : Int) = (n : Int) - 1
    · have hb : headBad L 62 = false := by rw [hbad]; simp [d1]
      have hx := hnext hb
      simp [F191_elf_file_head_b1, hw, d1]
      rw [show IntKind.wrap .i64 63 = 63 from h1]
      simpa [d1] using hx
    · have hb : headBad L 62 = true := by rw [hbad]; simp [d1]
      simp [F191_elf_file_head_b1, hw, d1]
      exact hret _ (by simp) hb
  have n62 : ¬ (i : Int) = 62 := by omega
  by_cases c4 : 40 ≤ i
  · have c4' : (40 : Int) ≤ i := by omega
    by_cases c5 : i < 48
    · have c5' : (i : Int) < 48 := by omega
      have hb : headBad L i = false := by rw [hbad]; simp [c40, c60, c62, c4, c5]
      have hx := hnext hb
      simp [F191_elf_file_head_b1, hlt, n40, n60, n62, c4', c5', h1]
      simpa using hx
    · have c5' : ¬ (i : Int) < 48 := by omega
      by_cases c6 : 60 ≤ i
      · have c6' : (60 : Int) ≤ i := by omega
        have hb : headBad L i = false := by rw [hbad]; simp [c40, c60, c62, c6]
        have hx := hnext hb
        simp [F191_elf_file_head_b1, hlt, n40, n60, n62, c4', c5', c6', h1]
        simpa using hx
      · have c6' : ¬ (60 : Int) ≤ i := by omega
        obtain ⟨x, hx⟩ : ∃ x, L[i]? = some x := ⟨_, List.getElem?_eq_getElem (by omega)⟩
        obtain ⟨y, hy⟩ : ∃ y, wantB[i]? = some y := ⟨_, List.getElem?_eq_getElem (by rw [wantB_len]; omega)⟩
        obtain ⟨gx1, gx2⟩ := bsl_iaddr (nz := nz) hx (k := .i64)
        obtain ⟨gy1, gy2⟩ := bsl_iaddr (nz := true) hy (k := .i64)
        have hgx : L.getD i 0 = x := by rw [List.getD_eq_getElem?_getD, hx]; rfl
        have hgy : wantB.getD i 0 = y := by rw [List.getD_eq_getElem?_getD, hy]; rfl
        by_cases hxy : x = y
        · have hb : headBad L i = false := by rw [hbad, hgx, hgy]; simp [c40, c60, c62, hxy]
          have hq := hnext hb
          subst hxy
          simp [F191_elf_file_head_b1, hlt, n40, n60, n62, c4', c5', c6', h1, gx1, gx2, gy1, gy2, hro, mkV]
          simpa using hq
        · have hb : headBad L i = true := by rw [hbad, hgx, hgy]; simp [c40, c60, c62, hxy, c4, c5, c6]; try omega
          have hxn : ¬ ((x.toNat : Int) = y.toNat) := fun e => hxy (UInt8.toNat_inj.1 (Int.ofNat.inj e))
          simp [F191_elf_file_head_b1, hlt, n40, n60, n62, c4', c5', c6', h1, gx1, gx2, gy1, gy2, hro, mkV, hxn]
          exact hret _ (by simp) hb
  · have c4' : ¬ (40 : Int) ≤ i := by omega
    have c6 : ¬ 60 ≤ i := by omega
    have c6' : ¬ (60 : Int) ≤ i := by omega
    obtain ⟨x, hx⟩ : ∃ x, L[i]? = some x := ⟨_, List.getElem?_eq_getElem (by omega)⟩
    obtain ⟨y, hy⟩ : ∃ y, wantB[i]? = some y := ⟨_, List.getElem?_eq_getElem (by rw [wantB_len]; omega)⟩
    obtain ⟨gx1, gx2⟩ := bsl_iaddr (nz := nz) hx (k := .i64)
    obtain ⟨gy1, gy2⟩ := bsl_iaddr (nz := true) hy (k := .i64)
    have hgx : L.getD i 0 = x := by rw [List.getD_eq_getElem?_getD, hx]; rfl
    have hgy : wantB.getD i 0 = y := by rw [List.getD_eq_getElem?_getD, hy]; rfl
    by_cases hxy : x = y
    · have hb : headBad L i = false := by rw [hbad, hgx, hgy]; simp [c40, c60, c62, hxy]
      have hq := hnext hb
      subst hxy
      simp [F191_elf_file_head_b1, hlt, n40, n60, n62, c4', c6', h1, gx1, gx2, gy1, gy2, hro, mkV]
      simpa using hq
    · have hb : headBad L i = true := by rw [hbad, hgx, hgy]; simp [c40, c60, c62, hxy, c4, c6]; try omega
      have hxn : ¬ ((x.toNat : Int) = y.toNat) := fun e => hxy (UInt8.toNat_inj.1 (Int.ofNat.inj e))
      simp [F191_elf_file_head_b1, hlt, n40, n60, n62, c4', c6', h1, gx1, gx2, gy1, gy2, hro, mkV, hxn]
      exact hret _ (by simp) hb
include hp
theorem den_head {st : St} {p : Nat} {L : List UInt8} {nz : Bool} {tb es as : V} (hro : st.row p = some [bsl nz L, tb, es, as]) (hfl : st.floor = 0) (hL : 64 ≤ L.length) (hL' : L.length ≤ 2199023255552) :
    den pr 191 [.ptr p 0] st = some (match headP L with | none => (.d (.i .i64 (-1)), st.put p [bsl nz L, .d (.i .i64 (roomI L)), es, as]) | some i => (.d (.i .i64 (i : Nat)), st)) := by
  have hpl := row_lt hro
  have hh : ∀ st, den pr 188 [.d (.i .i64 0), .d (.i .i64 2)] st = some (.d (.sl 16 true ((hdrF 0 2).map fldD).flatten), st) := fun st => den_header hp (st := st) 0 2 (by decide) (by decide) (by decide)
  obtain ⟨W, hW⟩ : ∃ W, W = hdrF 0 2 := ⟨_, rfl⟩
  have hW8 : ∀ f ∈ W, f.1 ≤ 8 := by rw [hW]; decide
  have hWl : W.length = 16 := by rw [hW]; rfl
  have hWw : widF W = 64 := by rw [hW]; rfl
  have hWh : W.map (·.1) = hdW := by rw [hW]; rfl
  have hWB : laidF W = wantB := by rw [hW]; rfl
  rw [← hW] at hh
  have hWc : SlC 2 (.d (.sl 16 true (W.map fldD).flatten)) (W.map fldD) := SlC.of_sl (fld_els W) (by simp [hWl]) rfl
  have htk : (L.take 64).length = 64 := by rw [List.length_take]; omega
  have hto := fun st => den_told hp (st := st) (L := L.take 64) (fs := W) (v := .d (.sl 16 true (W.map fldD).flatten)) (v0 := bsl nz (L.take 64)) (nz := nz) rfl hWc hW8 (by omega) (by omega)
  rw [hWl, hWh] at hto
  have hla := fun st => den_laidF hp (st := st) hWc hW8 (by omega) (by omega)
  have hne : decide (laidF W ≠ []) = true := by rw [hWB]; decide
  rw [hne, hWB] at hla
  have hsl := bsl_slc nz L (lo := none) (hi := some (.d (.i .i64 64))) (a := 0) (b := 64) rfl rfl (by omega) hL
  rw [List.drop_zero] at hsl
  obtain ⟨e, g1, g2, g3, g4, g5⟩ := head_in (pr := pr) (H := st.heap) (T := st.tips) (fl := st.floor) (tf := st.tfloor) (L := L) hpl
  rw [St.asS] at g1
  obtain ⟨r, q1, q2⟩ := head_bytes (pr := pr) rfl hro hL hL'
  have hn : hv L 14 < 65536 := hv_lt L (w := 2) rfl
  have w1 : IntKind.wrap .i64 (hv L 14 : Int) = hv L 14 := wrap_i64 (by omega) (by omega)
  have w2 : IntKind.wrap .i64 (64 * (hv L 14 : Int)) = 64 * (hv L 14 : Int) := wrap_i64 (by omega) (by omega)
  have w3 : IntKind.wrap .i64 ((L.length : Int) - 64 * (hv L 14 : Int)) = roomI L := by rw [wrap_i64 (by omega) (by omega)]; rfl
  rw [den_fn (hp.at 9 rfl) rfl rfl, start_raw _ rfl]
  have hu : ((toldF (L.take 64) hdW).map fldD).flatten = ((hdT L).map fldD).flatten := rfl
  simp [F191_elf_file_head, hro, mkV, hsl, hh, hto, hu, g1, g2, g3, g4, g5, hla, w1, w2, w3]
  rcases q2 with ⟨e', rfl, k0, k9, hP⟩ | ⟨e', i, rfl, k2, hP⟩
  · simp [q1, k0, k9, hP, hro, lay, setBlk_put hfl]
  · simp [q1, k2, hP]
end
end Go.Sh

/- Sections read: a file's parts. -/
set_option linter.unusedVariables false
set_option linter.unusedSimpArgs false
namespace Go.Sh
def entD (F : List Fld) : D := .sl F.length true (F.map fldD).flatten
def fv (F : List Fld) (i : Nat) : Nat := (F.getD i (0, 0)).2
/-- A file that is read. -/
structure FR (st : St) (p : Nat) (L : List UInt8) (t tE tA : Nat) (es : List (List Fld)) (ats : List Nat) : Prop where
  fl : st.floor = 0
  tf : st.tfloor = 0
  row : ∃ vE vA, st.row p = some [bsl true L, .d (.i .i64 (t : Nat)), vE, vA] ∧ NL st vE tE (es.map entD) ∧ NL st vA tA (intC ats)
  tt : es ≠ [] → ats ≠ [] → tE ≠ tA
def wrongM (t k i x at' : Nat) : Bool :=
  if k = 0 then decide (x ≠ 0) else if i = 2 ∨ i = 8 ∨ i = 9 then decide (9223372036854775808 ≤ x) else if i = 3 then decide (x ≠ 0) else if i = 4 then decide (x ≠ at') else if i = 5 then decide (t - at' < x) else false
section
variable {pr : Prog} (hp : Sub elfFns pr) {st : St}
theorem pureStart {fn : SFn} {st : St} (h : fn.pure = true) : ∃ s, start fn st = s ∧ s.heap = st.heap ∧ s.tips = st.tips := ⟨_, rfl, by simp [start, h]⟩
include hp
theorem den_wrong {p t k i x a : Nat} {vb vE vA : V} (hro : st.row p = some [vb, .d (.i .i64 (t : Nat)), vE, vA]) (hat : a ≤ t) (ht : t ≤ 2199023255552) (hk : k < 2 ^ 32) (hi : i < 10) :
    den pr 200 [.ptr p 0, .d (.i .i64 (k : Nat)), .d (.i .i64 (i : Nat)), .d (.i .u64 (x : Nat)), .d (.i .i64 (a : Nat))] st = some (.d (.b (wrongM t k i x a)), st) := by
  rw [den_fn (hp.at 16 rfl) rfl rfl]
  obtain ⟨s1, hs1, hh, _⟩ := pureStart (fn := F200_elf_file_wrong) (st := st) rfl
  rw [hs1]
  have hr1 : s1.row p = some [vb, .d (.i .i64 (t : Nat)), vE, vA] := (row_of_heap (by rw [hh])).trans hro
  have w1 : IntKind.wrap .u64 (a : Int) = a := by rw [wrapE64]; omega
  have w2 : IntKind.wrap .i64 ((t : Int) - (a : Int)) = ((t - a : Nat) : Int) := by rw [wrap_i64 (by omega) (by omega)]; omega
  have w3 : IntKind.wrap .u64 ((t - a : Nat) : Int) = ((t - a : Nat) : Int) := by rw [wrapE64]; omega
  by_cases hk0 : k = 0
  · subst hk0
    simp [F200_elf_file_wrong, wrongM]
  have hk0' : ¬ (k : Int) = 0 := by omega
  have c : i = 0 ∨ i = 1 ∨ i = 2 ∨ i = 3 ∨ i = 4 ∨ i = 5 ∨ i = 6 ∨ i = 7 ∨ i = 8 ∨ i = 9 := by omega
  rcases c with rfl | rfl | rfl | rfl | rfl | rfl | rfl | rfl | rfl | rfl <;> simp [F200_elf_file_wrong, wrongM, hk0, hk0', w1, w2, w3, hr1, mkV] <;> try omega
theorem den_size {st' : St} {p t k : Nat} {F : List Fld} {vb vE vA : V} {tE : Nat} {es : List (List Fld)} (hro : st.row p = some [vb, .d (.i .i64 (t : Nat)), vE, vA]) (hE : NL st' vE tE (es.map entD)) (hk : es[k]? = some F) (hF : F.length = 10) (hx : fv F 5 < 2 ^ 63) :
    den pr 201 [.ptr p 0, .d (.i .i64 (k : Nat))] st = some (.d (.i .i64 (fv F 5 : Nat)), st) := by
  rw [den_fn (hp.at 17 rfl) rfl rfl]
  obtain ⟨s1, hs1, hh, _⟩ := pureStart (fn := F201_elf_file_size) (st := st) rfl
  rw [hs1]
  have hr1 : s1.row p = some [vb, .d (.i .i64 (t : Nat)), vE, vA] := (row_of_heap (by rw [hh])).trans hro
  obtain ⟨g1, g2⟩ := hE.get (i := k) (x := entD F) (by simp [hk]) (k := .i64)
  have hd : SlD 2 (.d (entD F)) (F.map fldD) := ⟨fld_els F, true, by simp [entD]⟩
  have hia := hd.iaddr (i := (5 : Int)) (k := .i64) (by omega) (by simp [hF])
  obtain ⟨f, hf⟩ : ∃ f, F[5]? = some f := ⟨_, List.getElem?_eq_getElem (by omega)⟩
  have hld : ∀ s, loadV 1 false s (elP 2 (.d (entD F)) 5 1) = some (.d (.i .u64 (fv F 5 : Nat))) := fun s => by
    rw [hd.load (el := fldD f) (by simp [hf]) (by omega) (by omega)]
    unfold fv
    rw [List.getD_eq_getElem?_getD, hf]
    rfl
  have w : IntKind.wrap .i64 (fv F 5 : Int) = fv F 5 := wrap_i64 (by omega) (by omega)
  have hia' : iaddrV 2 (.d (entD F)) (.d (.i .i64 5)) = some (elP 2 (.d (entD F)) 5 0) := hia
  simp [F201_elf_file_size, hr1, mkV, g1, g2, hia', hd.faddr, hld, w]
omit hp in
theorem fv_load {F : List Fld} (hF : F.length = 10) {i : Nat} (hi : i < 10) : ∃ a, iaddrV 2 (.d (entD F)) (.d (.i .i64 (i : Int))) = some a ∧ ∃ b, faddrV 1 a = some b ∧ ∀ s, loadV 1 false s b = some (.d (.i .u64 (fv F i : Nat))) := by
  have hd : SlD 2 (.d (entD F)) (F.map fldD) := ⟨fld_els F, true, by simp [entD]⟩
  have hia := hd.iaddr (i := (i : Int)) (k := .i64) (by omega) (by simp [hF]; omega)
  obtain ⟨f, hf⟩ : ∃ f, F[i]? = some f := ⟨_, List.getElem?_eq_getElem (by omega)⟩
  refine ⟨_, hia, _, hd.faddr, fun s => ?_⟩
  rw [Int.toNat_natCast, hd.load (el := fldD f) (by simp [hf]) (by omega) (by omega)]
  unfold fv
  rw [List.getD_eq_getElem?_getD, hf]
  rfl
theorem den_data {st' : St} {p t k a : Nat} {F : List Fld} {L : List UInt8} {vE vA : V} {tE tA : Nat} {es : List (List Fld)} {ats : List Nat} (hro : st.row p = some [bsl true L, .d (.i .i64 (t : Nat)), vE, vA]) (hE : NL st' vE tE (es.map entD)) (hA : NL st' vA tA (intC ats)) (hk : es[k]? = some F) (ha : ats[k]? = some a) (hF : F.length = 10) (hx : a + fv F 5 ≤ L.length) (hL : L.length ≤ 2199023255552) :
    den pr 197 [.ptr p 0, .d (.i .i64 (k : Nat))] st = some (bsl true ((L.take (a + fv F 5)).drop a), st) := by
  rw [den_fn (hp.at 14 rfl) rfl rfl]
  obtain ⟨s1, hs1, hh, ht⟩ := pureStart (fn := F197_elf_file_data) (st := st) rfl
  rw [hs1]
  have hr1 : s1.row p = some [bsl true L, .d (.i .i64 (t : Nat)), vE, vA] := (row_of_heap (by rw [hh])).trans hro
  obtain ⟨g1, g2⟩ := hA.get (i := k) (x := .i .i64 (a : Int)) (by simp [intC, ha]) (k := .i64)
  have hsz := den_size hp (st := s1) hr1 hE hk hF (by omega)
  have w : IntKind.wrap .i64 ((a : Int) + (fv F 5 : Int)) = ((a + fv F 5 : Nat) : Int) := by rw [wrap_i64 (by omega) (by omega)]; omega
  have hsl := bsl_slc true L (lo := some (.d (.i .i64 (a : Nat)))) (hi := some (.d (.i .i64 ((a + fv F 5 : Nat) : Int)))) (a := a) (b := a + fv F 5) rfl rfl (by omega) hx
  simp only [Int.natCast_add] at w hsl
  simp [F197_elf_file_data, hr1, mkV, g1, g2, hsz, w, hsl]
theorem den_num {st' : St} {p q c t k i : Nat} {F : List Fld} {vb vE vA : V} {tE : Nat} {es : List (List Fld)} (hq : st.row q = some [.ptr p 0]) (hc : st.row c = some [.d (.i .i64 (k : Nat))]) (hro : st.row p = some [vb, .d (.i .i64 (t : Nat)), vE, vA]) (hE : NL st' vE tE (es.map entD)) (hk : es[k]? = some F) (hF : F.length = 10) (hi : i < 10) (hx : fv F i < 2 ^ 63) :
    den pr 196 [.d (.i .i64 (i : Nat)), .ptr q 0, .ptr c 0] st = some (.d (.i .i64 (fv F i : Nat)), st) := by
  rw [den_fn (hp.at 13 rfl) rfl rfl]
  obtain ⟨s1, hs1, hh, ht⟩ := pureStart (fn := F196_elf_Read_1) (st := st) rfl
  rw [hs1]
  have hr1 : s1.row p = some [vb, .d (.i .i64 (t : Nat)), vE, vA] := (row_of_heap (by rw [hh])).trans hro
  have hr2 : s1.row q = some [.ptr p 0] := (row_of_heap (by rw [hh])).trans hq
  have hr3 : s1.row c = some [.d (.i .i64 (k : Nat))] := (row_of_heap (by rw [hh])).trans hc
  obtain ⟨g1, g2⟩ := hE.get (i := k) (x := entD F) (by simp [hk]) (k := .i64)
  obtain ⟨a, f1, b, f2, f3⟩ := fv_load hF hi
  have w : IntKind.wrap .i64 (fv F i : Int) = fv F i := wrap_i64 (by omega) (by omega)
  simp [F196_elf_Read_1, hr1, hr2, hr3, mkV, g1, g2, f1, f2, f3, w]
theorem den_clone9 (L : List UInt8) (hL : L.length ≤ 140737488355328) : den pr 198 [bsl true L] st = some (bsl true L, st) := by
  refine den_shut (hp.at 15 rfl) rfl rfl (by simp; rfl) ?_
  have h : eqV [11] (.d (.sl L.length true (byteCells L))) (.d (.sl 0 false [])) = some false := rfl
  simp [F198_bytes_Clone, h, reps, fillV, ofDs, appV, bsl, vw, byteCells_len, hL, toDs]
end
end Go.Sh

/- Sections read: the table's fields. -/
set_option linter.unusedVariables false
set_option linter.unusedSimpArgs false
namespace Go.Sh
def lastE : List Fld := entF ⟨[], 3, 0, 0, 0, 1, 0, [], false⟩ 0 0
def entW : List Nat := lastE.map (·.1)
def offF (i : Nat) : Nat := (entW.take i).sum
def badFld (t k a : Nat) (fin : Bool) (F : List Fld) (i : Nat) : Bool :=
  wrongM t k i (fv F i) a || (fin && decide (0 < k) && decide (i ≠ 0 ∧ i ≠ 4 ∧ i ≠ 5) && decide (fv F i ≠ fv lastE i)) || (fin && decide (0 < k) && decide (i = 5) && decide (r8 (a + fv F 5) ≠ t))
def badEnt (t k a : Nat) (fin : Bool) (F : List Fld) : Option Nat := (List.range 10).find? (badFld t k a fin F)
theorem lastE_len : lastE.length = 10 := rfl
section
variable {pr : Prog} (hp : Sub elfFns pr)
include hp
theorem flds_in {H : List (Option Blk)} {T : List Nat} {fl tf p t k a front : Nat} {fin : Bool} {F : List Fld} {vb vE vA Fv lv : V} (hpl : p < H.length) (hrow : ∀ bs ts fl tf, (S H T bs ts fl tf).row p = some [vb, .d (.i .i64 (t : Nat)), vE, vA]) (hFv : Fv = .d (entD F)) (hlv : lv = .d (entD lastE)) (hF : F.map (·.1) = entW)
    (hat : a ≤ t) (ht : t ≤ 2199023255552) (hk : k < 2 ^ 32) (hfr : front ≤ 2199023255552) :
    ∃ r, cden pr (.loop [0, 3, 4, 5, 8, 9, 75, 76, 77] true F192_elf_file_fields_b1) [(0, .ptr p 0), (3, .d (.i .i64 (a : Nat))), (4, lv), (5, .d (.i .i64 (k : Nat))), (8, .d (.b fin)), (9, .d (.i .i64 (front : Nat))), (75, Fv), (76, .d (.i .i64 10)), (77, .d (.i .i64 0))] (S H T [] [] fl tf) = some r ∧
      ((∃ e, r = (.exit 2, e, S H T [] [] fl tf) ∧ e.get 0 = some (.ptr p 0) ∧ e.get 3 = some (.d (.i .i64 (a : Nat))) ∧ e.get 4 = some lv ∧ e.get 5 = some (.d (.i .i64 (k : Nat))) ∧ badEnt t k a fin F = none) ∨
        ∃ e i, r = (.ret, e, S H T [] [] fl tf) ∧ e.get 2 = some (.d (.i .i64 ((front + offF i : Nat) : Int))) ∧ badEnt t k a fin F = some i) := by
  obtain ⟨J2, hJ2⟩ : ∃ J2 : Out → Prop, ∀ r, J2 r ↔ ((∃ e, r = (.exit 2, e, S H T [] [] fl tf) ∧ e.get 0 = some (.ptr p 0) ∧ e.get 3 = some (.d (.i .i64 (a : Nat))) ∧ e.get 4 = some lv ∧ e.get 5 = some (.d (.i .i64 (k : Nat))) ∧ badEnt t k a fin F = none) ∨
        ∃ e i, r = (.ret, e, S H T [] [] fl tf) ∧ e.get 2 = some (.d (.i .i64 ((front + offF i : Nat) : Int))) ∧ badEnt t k a fin F = some i) := ⟨_, fun _ => Iff.rfl⟩
  suffices h : ∃ r, cden pr (.loop [0, 3, 4, 5, 8, 9, 75, 76, 77] true F192_elf_file_fields_b1) [(0, .ptr p 0), (3, .d (.i .i64 (a : Nat))), (4, lv), (5, .d (.i .i64 (k : Nat))), (8, .d (.b fin)), (9, .d (.i .i64 (front : Nat))), (75, Fv), (76, .d (.i .i64 10)), (77, .d (.i .i64 0))] (S H T [] [] fl tf) = some r ∧ J2 r by
    obtain ⟨r, h1, h2⟩ := h
    exact ⟨r, h1, (hJ2 r).1 h2⟩
  have hFl : F.length = 10 := by have := congrArg List.length hF; simpa [entW, lastE_len] using this
  have hd : SlD 2 Fv (F.map fldD) := by rw [hFv]; exact ⟨fld_els F, true, by simp [entD]⟩
  have hesc : ∀ s a b, esc1 s a b lv = some lv := fun _ _ _ => by rw [hlv]; rfl
  obtain ⟨J, hJ⟩ : ∃ J : Nat → Env → St → Prop, ∀ m e s, J m e s ↔ ∃ i, m + i = 10 ∧ e = [(0, .ptr p 0), (3, .d (.i .i64 (a : Nat))), (4, lv), (5, .d (.i .i64 (k : Nat))), (8, .d (.b fin)), (9, .d (.i .i64 ((front + offF i : Nat) : Int))), (75, Fv), (76, .d (.i .i64 10)), (77, .d (.i .i64 (i : Nat)))] ∧ s = S H T [] [] fl tf ∧ ∀ j, j < i → badFld t k a fin F j = false := ⟨_, fun _ _ _ => Iff.rfl⟩
  refine loop_j J ?_ (n := 10) ((hJ _ _ _).2 ⟨0, rfl, rfl, rfl, fun j hj => by omega⟩)
  intro m e s hj
  obtain ⟨i, hm, rfl, rfl, hok⟩ := (hJ _ _ _).1 hj
  rcases Nat.lt_or_ge i 10 with h | h
  rotate_left
  · obtain rfl : i = 10 := by omega
    simp [F192_elf_file_fields_b1, hpl, hd.esc, hesc]
    exact (hJ2 _).2 (.inl ⟨_, rfl, by simp [hpl, hesc, hd.esc], by simp [hpl, hesc, hd.esc], by simp [hpl, hesc, hd.esc], by simp [hpl, hesc, hd.esc], find_range_none hok⟩)
  obtain ⟨f, hf⟩ : ∃ f, F[i]? = some f := ⟨_, List.getElem?_eq_getElem (by omega)⟩
  obtain ⟨w, x⟩ := f
  have hx : fv F i = x := by unfold fv; rw [List.getD_eq_getElem?_getD, hf]; rfl
  have hwi : entW[i]? = some w := by rw [← hF]; simp [hf]
  have hw8 : w ≤ 8 := by
    have : w ∈ entW := List.mem_of_getElem? hwi
    revert this
    have : ∀ w ∈ entW, w ≤ 8 := by decide
    exact this w
  have hof : offF (i + 1) = offF i + w := by
    unfold offF
    rw [List.take_add_one, hwi]
    simp
  have hoff : offF i ≤ 64 := by
    have : ∀ i, i < 10 → offF i ≤ 64 := by decide
    exact this i h
  have h1 : IntKind.wrap .i64 ((i : Int) + 1) = ((i + 1 : Nat) : Int) := by rw [wrap_i64 (by omega) (by omega)]; omega
  have h2 : IntKind.wrap .i64 (((front + offF i : Nat) : Int) + (w : Int)) = ((front + offF (i + 1) : Nat) : Int) := by rw [wrap_i64 (by omega) (by omega), hof]; omega
  have hlt : (i : Int) < 10 := by omega
  have hia := hd.iaddr (i := (i : Int)) (k := .i64) (by omega) (by simp [hFl]; omega)
  simp only [Int.toNat_natCast] at hia
  have hld : ∀ s, loadV 2 true s (elP 2 Fv i 0) = some (.agg (ofDs (fldD (w, x)))) := fun s => by
    rw [hd.load (el := fldD (w, x)) (by simp [hf]) (by omega) (by omega)]
    rfl
  have hsb := fun c b ts => S_setBlk0 (H := H) (T := T) (bs := [c]) (ts := ts) (fl := H.length) (tf := tf) (b := b) (Nat.le_refl _)
  have hwr := fun bs ts fl tf => den_wrong hp (st := S H T bs ts fl tf) (x := x) (i := i) (hrow bs ts fl tf) hat ht hk h
  obtain ⟨la, l1, lb, l2, l3⟩ := fv_load lastE_len h
  rw [← hlv] at l1
  simp only [fldD, ofDs, List.map_cons, List.map_nil] at hld
  have hret : ∀ e, e.get 2 = some (.d (.i .i64 ((front + offF i : Nat) : Int))) → badFld t k a fin F i = true → J2 (.ret, e, S H T [] [] fl tf) := fun e he hb => (hJ2 _).2 (.inr ⟨e, i, rfl, he, find_range h hok hb⟩)
  have hnext : badFld t k a fin F i = false → ∃ m', m' < m ∧ J m' [(0, .ptr p 0), (3, .d (.i .i64 (a : Nat))), (4, lv), (5, .d (.i .i64 (k : Nat))), (8, .d (.b fin)), (9, .d (.i .i64 ((front + offF (i + 1) : Nat) : Int))), (75, Fv), (76, .d (.i .i64 10)), (77, .d (.i .i64 ((i + 1 : Nat) : Int)))] (S H T [] [] fl tf) := fun hb => ⟨m - 1, by omega, (hJ _ _ _).2 ⟨i + 1, by omega, rfl, rfl, fun j hj => by
    rcases Nat.lt_or_ge j i with h | h
    · exact hok j h
    · obtain rfl : j = i := by omega
      exact hb⟩⟩
  have hbad : badFld t k a fin F i = (wrongM t k i x a || (fin && decide (0 < k) && decide (i ≠ 0 ∧ i ≠ 4 ∧ i ≠ 5) && decide (x ≠ fv lastE i)) || (fin && decide (0 < k) && decide (i = 5) && decide (r8 (a + fv F 5) ≠ t))) := by rw [← hx]; rfl
  obtain ⟨fo, hfo⟩ : ∃ fo : Int, fo = ((front + offF i : Nat) : Int) := ⟨_, rfl⟩
  obtain ⟨fo1, hfo1⟩ : ∃ fo : Int, fo = ((front + offF (i + 1) : Nat) : Int) := ⟨_, rfl⟩
  rw [← hfo] at h2 hret ⊢
  rw [← hfo1] at h2 hnext
  cases hwm : wrongM t k i x a with
  | true =>
    rw [hwm] at hwr
    simp [F192_elf_file_fields_b1, hlt, hia, hld, hsb, ofDs, lay, mkV, hwr, hpl, hd.esc, hesc]
    exact hret _ (by simp) (by rw [hbad, hwm]; simp)
  | false =>
    rw [hwm] at hwr hbad
    rw [Bool.false_or] at hbad
    cases fin with
    | false =>
      have hq := hnext (by rw [hbad]; simp)
      simp [F192_elf_file_fields_b1, hlt, hia, hld, hsb, ofDs, lay, mkV, hwr, hpl, hd.esc, hesc, h2, h1]
      simpa using hq
    | true =>
    by_cases hk0 : k = 0
    · subst hk0
      have hq := hnext (by rw [hbad]; simp)
      have hwr' := fun bs ts fl tf => hwr bs ts fl tf
      simp only [Int.ofNat_eq_natCast, Int.natCast_zero] at hwr'
      simp [F192_elf_file_fields_b1, hlt, hia, hld, hsb, ofDs, lay, mkV, hwr', hpl, hd.esc, hesc, h2, h1]
      simpa using hq
    have hk0' : (0 : Int) < k := by omega
    have hk0'' : 0 < k := by omega
    by_cases c0 : i = 0
    · have d5 : ¬ (i : Int) = 5 := by omega
      have hq := hnext (by rw [hbad]; simp [c0])
      simp [F192_elf_file_fields_b1, hlt, hia, hld, hsb, ofDs, lay, mkV, hwr, hpl, hd.esc, hesc, h2, h1, hk0', hk0'', eq_true c0, d5]
      simpa using hq
    have d0 : ¬ i = 0 := c0
    by_cases c4 : i = 4
    · have d4 := eq_true (show (i : Int) = 4 by omega)
      have d5 : ¬ (i : Int) = 5 := by omega
      have hq := hnext (by rw [hbad]; simp [c4])
      simp [F192_elf_file_fields_b1, hlt, hia, hld, hsb, ofDs, lay, mkV, hwr, hpl, hd.esc, hesc, h2, h1, hk0', hk0'', d0, d4, d5]
      simpa using hq
    have d4 : ¬ (i : Int) = 4 := by omega
    by_cases c5 : i = 5
    · have d5 := eq_true (show (i : Int) = 5 by omega)
      have hxt : x ≤ t - a := by
        have := hwm
        simp [wrongM, hk0, c5] at this
        omega
      have hx5 : fv F 5 = x := by rw [← c5]; exact hx
      have w1 : IntKind.wrap .i64 (x : Int) = x := wrap_i64 (by omega) (by omega)
      have w2 : IntKind.wrap .i64 ((a : Int) + (x : Int)) = ((a + x : Nat) : Int) := by rw [wrap_i64 (by omega) (by omega)]; omega
      have hrd := fun st => den_round hp (st := st) (a + x) (by omega)
      rw [show ((a + x : Nat) : Int) = (a : Int) + x by omega] at w2 hrd
      by_cases hr8 : r8 (a + x) = t
      · have dr := eq_true (show (r8 (a + x) : Int) = (t : Int) by omega)
        have hq := hnext (by rw [hbad, hx5]; simp [hr8, c5])
        simp [F192_elf_file_fields_b1, hlt, hia, hld, hsb, ofDs, lay, mkV, hwr, hpl, hd.esc, hesc, h2, h1, hk0', hk0'', d0, d4, d5, w1, w2, hrd, hrow, dr]
        simpa using hq
      · have dr : ¬ (r8 (a + x) : Int) = (t : Int) := by omega
        have hb : badFld t k a true F i = true := by rw [hbad, hx5]; simp [hr8, c5, hk0'']
        simp [F192_elf_file_fields_b1, hlt, hia, hld, hsb, ofDs, lay, mkV, hwr, hpl, hd.esc, hesc, h2, h1, hk0', hk0'', d0, d4, d5, w1, w2, hrd, hrow, dr]
        exact hret _ (by simp) hb
    have d5 : ¬ (i : Int) = 5 := by omega
    by_cases hxl : x = fv lastE i
    · have dx := eq_true (show (x : Int) = (fv lastE i : Int) by omega)
      have hq := hnext (by rw [hbad]; simp [hxl, c5])
      simp [F192_elf_file_fields_b1, hlt, hia, hld, hsb, ofDs, lay, mkV, hwr, hpl, hd.esc, hesc, h2, h1, hk0', hk0'', d0, d4, d5, l1, l2, l3, dx]
      simpa using hq
    · have dx : ¬ (x : Int) = (fv lastE i : Int) := by omega
      have hb : badFld t k a true F i = true := by rw [hbad]; simp [hxl, c0, c4, c5, hk0'']
      simp [F192_elf_file_fields_b1, hlt, hia, hld, hsb, ofDs, lay, mkV, hwr, hpl, hd.esc, hesc, h2, h1, hk0', hk0'', d0, d4, d5, l1, l2, l3, dx]
      exact hret _ (by simp) hb
end
end Go.Sh

/- Sections read: the table, whole. -/
set_option linter.unusedVariables false
set_option linter.unusedSimpArgs false
namespace Go.Sh
def entAt (L : List UInt8) (t k : Nat) : List Fld := toldF ((L.take (t + 64 * k + 64)).drop (t + 64 * k)) entW
def nxtA (k a : Nat) (F : List Fld) : Nat := if k = 0 then a else r8 (a + fv F 5)
def fldsM (L : List UInt8) (t n : Nat) : Nat → Nat → Nat → Option Nat × List Nat
  | 0, _, _ => (none, [])
  | m + 1, k, a => match badEnt t k a (decide (k + 1 = n)) (entAt L t k) with
    | some i => (some (t + 64 * k + offF i), [])
    | none => ((fldsM L t n m (k + 1) (nxtA k a (entAt L t k))).1, a :: (fldsM L t n m (k + 1) (nxtA k a (entAt L t k))).2)
def entsTo (L : List UInt8) (t k : Nat) : List (List Fld) := (List.range k).map (entAt L t)
theorem entsTo_succ (L : List UInt8) (t k : Nat) : entsTo L t (k + 1) = entsTo L t k ++ [entAt L t k] := by simp [entsTo, List.range_succ]
theorem entAt_wid (L : List UInt8) (t k : Nat) : (entAt L t k).map (·.1) = entW := by
  have : ∀ (ws : List Nat) (L : List UInt8), (toldF L ws).map (·.1) = ws := by
    intro ws
    induction ws with
    | nil => intro L; rfl
    | cons w r ih => intro L; simp [toldF, ih]
  exact this _ _
theorem entAt_len (L : List UInt8) (t k : Nat) : (entAt L t k).length = 10 := toldF_len _ _
theorem badEnt_none {t k a : Nat} {fin : Bool} {F : List Fld} (h : badEnt t k a fin F = none) {i : Nat} (hi : i < 10) : badFld t k a fin F i = false := by
  unfold badEnt at h
  rw [List.find?_eq_none] at h
  have := h i (List.mem_range.2 hi)
  simpa using this
/-- Where an entry is one that may be: its data lie ahead of the table. -/
theorem nxtA_le {t k a : Nat} {fin : Bool} {F : List Fld} (h : badEnt t k a fin F = none) (ha : a ≤ t) (hm : a % 8 = 0) (ht : t % 8 = 0) : (0 < k → a + fv F 5 ≤ t) ∧ nxtA k a F ≤ t ∧ nxtA k a F % 8 = 0 := by
  have h5 := badEnt_none h (i := 5) (by decide)
  have key : 0 < k → a + fv F 5 ≤ t := by
    intro hk
    have hk' : ¬ k = 0 := by omega
    simp only [badFld, Bool.or_eq_false_iff] at h5
    have := h5.1.1
    simp [wrongM, hk'] at this
    omega
  refine ⟨key, ?_, ?_⟩
  · unfold nxtA
    split
    · exact ha
    · have := key (by omega)
      unfold r8
      omega
  · unfold nxtA
    split
    · exact hm
    · exact r8_mod _
section
variable {pr : Prog} (hp : Sub elfFns pr)
include hp
theorem den_fields {st : St} {p t n : Nat} {L : List UInt8} (hro : st.row p = some [bsl true L, .d (.i .i64 (t : Nat)), .d (.sl 0 false []), .d (.sl 0 false [])]) (hfl : st.floor = 0) (htf : st.tfloor = 0) (hn : t + 64 * n = L.length) (hn18 : n ≤ 18) (ht8 : t % 8 = 0) (ht64 : 64 ≤ t) (hL : L.length ≤ 1099511627776) :
    ∃ v s, den pr 192 [.ptr p 0] st = some (v, s) ∧ match fldsM L t n n 0 64 with
      | (some q, _) => v = .d (.i .i64 (q : Nat))
      | (none, ats) => v = .d (.i .i64 (-1)) ∧ Kp st s (fun i => i = p) (fun _ => False) ∧ ∃ vE vA tE tA, s.row p = some [bsl true L, .d (.i .i64 (t : Nat)), vE, vA] ∧ NL s vE tE ((entsTo L t n).map entD) ∧ NL s vA tA (intC ats) ∧ ats.length = n := by
  obtain ⟨R, hR⟩ : ∃ R : V → St → Prop, ∀ v s, R v s ↔ match fldsM L t n n 0 64 with
      | (some q, _) => v = .d (.i .i64 (q : Nat))
      | (none, ats) => v = .d (.i .i64 (-1)) ∧ Kp st s (fun i => i = p) (fun _ => False) ∧ ∃ vE vA tE tA, s.row p = some [bsl true L, .d (.i .i64 (t : Nat)), vE, vA] ∧ NL s vE tE ((entsTo L t n).map entD) ∧ NL s vA tA (intC ats) ∧ ats.length = n := ⟨_, fun _ _ => Iff.rfl⟩
  suffices h : Ans R (den pr 192 [.ptr p 0] st) by
    obtain ⟨x, st', h1, h2⟩ := h.ex
    exact ⟨x, st', h1, (hR _ _).1 h2⟩
  have hen : ∀ st, den pr 190 [.agg (ofDs (Sec.cells ⟨[], 3, 0, 0, 0, 1, 0, [], false⟩)), .d (.i .i64 0), .d (.i .i64 0)] st = some (.d (.sl 10 true (lastE.map fldD).flatten), st) := fun st => den_entry hp (st := st) ⟨[], 3, 0, 0, 0, 1, 0, [], false⟩ 0 0 (by decide) (by decide) (by decide) (by decide) (by decide)
  obtain ⟨lv, hlv⟩ : ∃ lv, lv = V.d (.sl 10 true (lastE.map fldD).flatten) := ⟨_, rfl⟩
  have hlv' : lv = .d (entD lastE) := hlv
  have hlc : SlC 2 lv (lastE.map fldD) := by rw [hlv]; exact SlC.of_sl (fld_els lastE) rfl rfl
  rw [← hlv] at hen
  rw [den_fn (hp.at 10 rfl) rfl rfl, start_raw _ rfl]
  simp only [Sec.cells, ofDs, List.map_cons, List.map_nil, List.length_nil, byteCells] at hen
  simp [F192_elf_file_fields, fillV, lay, ofDs, hen]
  generalize hO : cden pr (.loop _ _ _) _ _ = o
  obtain ⟨J2, hJ2⟩ : ∃ J2 : Out → Prop, ∀ r, J2 r ↔ ((∃ e s, r = (.exit 0, e, s) ∧ R (.d (.i .i64 (-1))) s) ∨ ∃ e s q, r = (.ret, e, s) ∧ e.get 2 = some (.d (.i .i64 (q : Nat))) ∧ ∃ ats, fldsM L t n n 0 64 = (some q, ats)) := ⟨_, fun _ => Iff.rfl⟩
  have key : ∃ r, o = some r ∧ J2 r := by
    rw [← hO]
    obtain ⟨J, hJ⟩ : ∃ J : Nat → Env → St → Prop, ∀ m e s, J m e s ↔ ∃ k a ats vE vA tE tA, m + k = n ∧ e = [(0, .ptr p 0), (3, .d (.i .i64 (a : Nat))), (4, lv), (5, .d (.i .i64 (k : Nat)))] ∧ s.row p = some [bsl true L, .d (.i .i64 (t : Nat)), vE, vA] ∧ NL s vE tE ((entsTo L t k).map entD) ∧ NL s vA tA (intC ats) ∧ ats.length = k ∧ Kp st s (fun i => i = p) (fun _ => False) ∧
        (0 < k → st.tips.length ≤ tE ∧ st.tips.length ≤ tA ∧ tE ≠ tA) ∧ a ≤ t ∧ a % 8 = 0 ∧ fldsM L t n n 0 64 = ((fldsM L t n m k a).1, ats ++ (fldsM L t n m k a).2) := ⟨_, fun _ _ _ => Iff.rfl⟩
    refine loop_j J ?_ (n := n) ((hJ _ _ _).2 ⟨0, 64, [], _, _, 0, 0, rfl, by simp, hro, .inl ⟨rfl, rfl⟩, .inl ⟨rfl, rfl⟩, rfl, .refl _ _ _, fun h => absurd h (Nat.lt_irrefl _), ht64, rfl, by simp⟩)
    intro m e s hj
    obtain ⟨k, a, ats, vE, vA, tE, tA, hm, rfl, hro', hE, hA, hal, hkp, htt, hat, ha8, hfm⟩ := (hJ _ _ _).1 hj
    have hfl' : s.floor = 0 := hkp.floor.trans hfl
    have htf' : s.tfloor = 0 := hkp.tfloor.trans htf
    have w1 : IntKind.wrap .i64 (64 * (k : Int)) = 64 * (k : Int) := wrap_i64 (by omega) (by omega)
    have w2 : IntKind.wrap .i64 ((t : Int) + 64 * (k : Int)) = (t : Int) + 64 * (k : Int) := wrap_i64 (by omega) (by omega)
    rcases Nat.lt_or_ge k n with h | h
    rotate_left
    · obtain rfl : k = n := by omega
      obtain rfl : m = 0 := by omega
      have hge : ¬ (t : Int) + 64 * (k : Int) < (L.length : Int) := by omega
      simp [F192_elf_file_fields_b0, hro', mkV, w1, w2, hge]
      refine (hJ2 _).2 (.inl ⟨_, _, rfl, (hR _ _).2 ?_⟩)
      rw [hfm]
      simp only [fldsM, List.append_nil]
      exact ⟨trivial, hkp, vE, vA, tE, tA, hro', hE, hA, hal⟩
    have hlt : (t : Int) + 64 * (k : Int) < (L.length : Int) := by omega
    obtain ⟨m', rfl⟩ : ∃ m', m = m' + 1 := ⟨m - 1, by omega⟩
    obtain ⟨fr, hfr⟩ : ∃ fr : Nat, fr = t + 64 * k := ⟨_, rfl⟩
    have hfri : (t : Int) + 64 * (k : Int) = (fr : Int) := by omega
    have w3 : IntKind.wrap .i64 ((fr : Int) + 64) = ((fr + 64 : Nat) : Int) := by rw [wrap_i64 (by omega) (by omega)]; omega
    have h64 : fr + 64 ≤ L.length := by omega
    have w2 : IntKind.wrap .i64 ((t : Int) + 64 * (k : Int)) = (fr : Int) := by rw [w2, hfri]
    rw [hfri] at hlt
    have hsl := bsl_slc true L (lo := some (.d (.i .i64 (fr : Int)))) (hi := some (.d (.i .i64 ((fr + 64 : Nat) : Int)))) (a := fr) (b := fr + 64) rfl rfl (by omega) h64
    obtain ⟨F, hF⟩ : ∃ F, F = entAt L t k := ⟨_, rfl⟩
    have hFl : F.length = 10 := by rw [hF]; exact entAt_len _ _ _
    have hsll : ((L.take (fr + 64)).drop fr).length = 64 := by rw [List.length_drop, List.length_take]; omega
    have hto := fun st => den_told hp (st := st) (L := (L.take (fr + 64)).drop fr) (fs := lastE) (v := lv) (v0 := bsl true ((L.take (fr + 64)).drop fr)) (nz := true) rfl hlc (by decide) (by rw [hsll]; decide) (by decide)
    have hFe : D.sl lastE.length true ((toldF ((L.take (fr + 64)).drop fr) (lastE.map (·.1))).map fldD).flatten = entD F := by
      rw [hF, entD, entAt_len, lastE_len, hfr]
      rfl
    rw [hFe] at hto
    have hne : (k : Int) + 1 = ((k + 1 : Nat) : Int) := by omega
    obtain ⟨vE1, tE1, s1, a1, a2, a3, a4, a5⟩ := hE.app htf' (x := entD F) (by' := 24) (by simp [entsTo]; omega) (by simp [entsTo]; omega)
    have hro1 : s1.row p = some [bsl true L, .d (.i .i64 (t : Nat)), vE, vA] := (row_of_heap (by rw [a3])).trans hro'
    obtain ⟨s2, hs2⟩ : ∃ s2, s2 = s1.put p [bsl true L, .d (.i .i64 (t : Nat)), vE1, vA] := ⟨_, rfl⟩
    have hlt2 : (entsTo L t k).map entD ≠ [] ↔ 0 < k := by
      rw [ne_eq, ← List.length_eq_zero_iff]
      simp [entsTo]
      omega
    have hat0 : intC ats ≠ [] ↔ 0 < k := by
      rw [ne_eq, ← List.length_eq_zero_iff]
      simp [intC, hal]
      omega
    have k1 : Kp s s2 (fun i => i = p) (fun u => 0 < k ∧ u = tE) := by rw [hs2]; exact (a4.mono (fun _ _ h => h.elim) fun u _ h => ⟨hlt2.1 h.1, h.2⟩).trans (Kp.put rfl)
    have hfl1 : s1.floor = 0 := a4.floor.trans hfl'
    have hro2 : s2.row p = some [bsl true L, .d (.i .i64 (t : Nat)), vE1, vA] := by rw [hs2]; exact row_put_eq (row_lt hro1)
    have hA2 : NL s2 vA tA (intC ats) := hA.keep k1 fun h0 h1 => (htt (hat0.1 h0)).2.2 h1.2.symm
    have htf2 : s2.tfloor = 0 := k1.tfloor.trans htf'
    have hE2 : NL s2 vE1 tE1 ((entsTo L t k).map entD ++ [entD F]) := a2.keep (R := fun i => i = p) (T := fun _ => False) (by rw [hs2]; exact Kp.put rfl) fun _ h => h
    obtain ⟨vA1, tA1, s3, b1, b2, b3, b4, b5⟩ := hA2.app htf2 (x := .i .i64 (a : Int)) (by' := 8) (by simp [intC, hal]; omega) (by simp [intC, hal]; omega)
    have hro3 : s3.row p = some [bsl true L, .d (.i .i64 (t : Nat)), vE1, vA] := (row_of_heap (by rw [b3])).trans hro2
    obtain ⟨s4, hs4⟩ : ∃ s4, s4 = s3.put p [bsl true L, .d (.i .i64 (t : Nat)), vE1, vA1] := ⟨_, rfl⟩
    have hfl2 : s2.floor = 0 := k1.floor.trans hfl'
    have hfl3 : s3.floor = 0 := b4.floor.trans hfl2
    have k2 : Kp s2 s4 (fun i => i = p) (fun u => 0 < k ∧ u = tA) := by rw [hs4]; exact (b4.mono (fun _ _ h => h.elim) fun u _ h => ⟨hat0.1 h.1, h.2⟩).trans (Kp.put rfl)
    have hro4 : s4.row p = some [bsl true L, .d (.i .i64 (t : Nat)), vE1, vA1] := by rw [hs4]; exact row_put_eq (row_lt hro3)
    have hp1 : ∀ cs, s1.setBlk p (.row cs) = some (s1.put p cs) := fun cs => setBlk_put hfl1
    have hp3 : ∀ cs, s3.setBlk p (.row cs) = some (s3.put p cs) := fun cs => setBlk_put hfl3
    have hE4 : NL s4 vE1 tE1 ((entsTo L t (k + 1)).map entD) := by
      rw [entsTo_succ, List.map_append]
      rw [hF] at hE2
      refine hE2.keep k2 fun _ h1 => ?_
      have hlA := hA.lt (hat0.2 h1.1)
      have h3 := (htt h1.1).2.2
      rcases a5 with ⟨_, rfl⟩ | rfl
      · exact h3 h1.2
      · rw [h1.2] at hlA; exact Nat.lt_irrefl _ hlA
    have hA4 : NL s4 vA1 tA1 (intC (ats ++ [a])) := by
      have : intC (ats ++ [a]) = intC ats ++ [.i .i64 (a : Int)] := by simp [intC]
      rw [this]
      exact b2.keep (R := fun i => i = p) (T := fun _ => False) (by rw [hs4]; exact Kp.put rfl) fun _ h => h
    have hk4 : Kp st s4 (fun i => i = p) (fun _ => False) := by
      have h5 := hkp.tlen
      refine ⟨k2.floor.trans (k1.floor.trans hkp.floor), k2.tfloor.trans (k1.tfloor.trans hkp.tfloor), Nat.le_trans hkp.hlen (Nat.le_trans k1.hlen k2.hlen), Nat.le_trans hkp.tlen (Nat.le_trans k1.tlen k2.tlen), fun i hi hne => ?_, fun u hu _ => ?_⟩
      · exact (k2.heap i (Nat.lt_of_lt_of_le hi (Nat.le_trans hkp.hlen k1.hlen)) hne).trans ((k1.heap i (Nat.lt_of_lt_of_le hi hkp.hlen) hne).trans (hkp.heap i hi hne))
      · exact (k2.tips u (Nat.lt_of_lt_of_le hu (Nat.le_trans hkp.tlen k1.tlen)) (fun h => by have := (htt h.1).2.1; omega)).trans ((k1.tips u (Nat.lt_of_lt_of_le hu hkp.tlen) (fun h => by have := (htt h.1).1; omega)).trans (hkp.tips u hu fun h => h))
    have htt4 : st.tips.length ≤ tE1 ∧ st.tips.length ≤ tA1 ∧ tE1 ≠ tA1 := by
      have h5 := hkp.tlen
      have h6 := k1.tlen
      have h7 : s.tips.length ≤ tE1 ∨ (0 < k ∧ tE1 = tE) := by
        rcases a5 with ⟨c1, c2⟩ | c1
        · exact .inr ⟨hlt2.1 c1, c2⟩
        · exact .inl (by omega)
      have h8 : s2.tips.length ≤ tA1 ∨ (0 < k ∧ tA1 = tA) := by
        rcases b5 with ⟨c1, c2⟩ | c1
        · exact .inr ⟨hat0.1 c1, c2⟩
        · exact .inl (by omega)
      have h9 := hE2.lt (by simp)
      rcases h7 with h7 | ⟨c1, rfl⟩ <;> rcases h8 with h8 | ⟨d1, rfl⟩
      · exact ⟨by omega, by omega, by omega⟩
      · have := htt d1
        have hlA := hA.lt (hat0.2 d1)
        exact ⟨by omega, by omega, by omega⟩
      · have := htt c1
        exact ⟨by omega, by omega, by omega⟩
      · have := htt c1
        exact ⟨by omega, by omega, this.2.2⟩
    have hpl4 := row_lt hro4
    obtain ⟨r', q1, q2⟩ := flds_in hp (H := s4.heap) (T := s4.tips) (fl := s4.floor) (tf := s4.tfloor) (p := p) (t := t) (k := k) (a := a) (front := fr) (fin := decide (k + 1 = n)) (F := F) (Fv := .d (entD F)) (lv := lv) hpl4 (fun bs ts fl tf => by rw [S_row_st hpl4]; exact hro4) rfl hlv' (by rw [hF]; exact entAt_wid _ _ _) hat (by omega) (by omega) (by omega)
    rw [St.asS] at q1 q2
    have hfin : decide (((fr + 64 : Nat) : Int) = (L.length : Int)) = decide (k + 1 = n) := by
      congr 1
      rw [eq_iff_iff]
      omega
    have hlenF : lenV (.d (entD F)) = some 10 := by simp [entD, lenV, hFl]
    simp only [fldsM, ← hF] at hfm
    rw [← hfr] at hfm
    have e64 : ((fr + 64 : Nat) : Int) = (fr : Int) + 64 := by omega
    rw [e64] at w3 hfin hsl
    simp [F192_elf_file_fields_b0, hro', mkV, w1, w2, hlt, w3, hsl, hto, fillV, reps, lay, ofDs, toDs, toD, hE2.one.1, hE2.one.2, b2.one.1, b2.one.2, a1, hro1, hp1, ← hs2, hro2, b1, hro3, hp3, ← hs4, hro4, hlenF, hfin, q1]
    rcases q2 with ⟨e', rfl, u0, u3, u4, u5, hbe⟩ | ⟨e', i, rfl, u2, hbe⟩
    rotate_left
    · simp
      refine (hJ2 _).2 (.inr ⟨_, _, fr + offF i, rfl, u2, ats, ?_⟩)
      rw [hfm, hbe]
      simp
    obtain ⟨n1, n2, n3⟩ := nxtA_le hbe hat ha8 ht8
    rw [hbe] at hfm
    have hw : IntKind.wrap .i64 ((k : Int) + 1) = ((k + 1 : Nat) : Int) := by rw [wrap_i64 (by omega) (by omega)]; omega
    have hnx : ∃ m0, m0 < m' + 1 ∧ J m0 [(0, .ptr p 0), (3, .d (.i .i64 (nxtA k a F : Nat))), (4, lv), (5, .d (.i .i64 ((k + 1 : Nat) : Int)))] s4 := ⟨m', by omega, (hJ _ _ _).2 ⟨k + 1, nxtA k a F, ats ++ [a], vE1, vA1, tE1, tA1, by omega, rfl, hro4, hE4, hA4, by simp [hal], hk4, fun _ => htt4, n2, n3, by rw [hfm]; simp⟩⟩
    by_cases hk0 : k = 0
    · subst hk0
      have hn0 : nxtA 0 a F = a := rfl
      rw [hn0] at hnx
      have hw' : IntKind.wrap .i64 (1 : Int) = 1 := wrap_i64 (by decide) (by decide)
      simp [u0, u3, u4, u5, hw']
      simpa using hnx
    · have hk0' : (0 : Int) < k := by omega
      have hk0'' : 0 < k := by omega
      have hfit := n1 hk0''
      have hen5 : (entsTo L t (k + 1))[k]? = some F := by
        rw [entsTo_succ, hF, List.getElem?_append_right (by simp [entsTo])]
        simp [entsTo]
      have hsz := den_size hp (st := s4) hro4 hE4 hen5 hFl (by omega)
      have hw3 : IntKind.wrap .i64 ((a : Int) + (fv F 5 : Int)) = ((a + fv F 5 : Nat) : Int) := by rw [wrap_i64 (by omega) (by omega)]; omega
      have hrd := fun st => den_round hp (st := st) (a + fv F 5) (by omega)
      have hn0 : nxtA k a F = r8 (a + fv F 5) := by simp [nxtA, hk0]
      rw [hn0] at hnx
      rw [show ((a + fv F 5 : Nat) : Int) = (a : Int) + fv F 5 by omega] at hw3 hrd
      simp [u0, u3, u4, u5, hk0', hk0'', hsz, hw3, hrd, hw]
      simpa using hnx
  obtain ⟨r, rfl, hr⟩ := key
  rcases (hJ2 r).1 hr with ⟨e, s, rfl, hr2⟩ | ⟨e, s, q, rfl, h2, ats, hq⟩
  · simp
    exact hr2
  · simp [h2]
    exact (hR _ _).2 (by rw [hq])
end
end Go.Sh

/- Sections read: what stands between the data. -/
set_option linter.unusedVariables false
set_option linter.unusedSimpArgs false
namespace Go.Sh
theorem fldsM_fit {L : List UInt8} {t n : Nat} (ht : t % 8 = 0) : ∀ {m k a : Nat} {ats : List Nat}, fldsM L t n m k a = (none, ats) → a ≤ t → a % 8 = 0 → ats.length = m ∧ ∀ j b, ats[j]? = some b → b ≤ t ∧ b % 8 = 0 ∧ (0 < k + j → b + fv (entAt L t (k + j)) 5 ≤ t)
  | 0, k, a, ats, h, _, _ => by
    simp only [fldsM, Prod.mk.injEq, true_and] at h
    subst h
    exact ⟨rfl, fun j b hb => by simp at hb⟩
  | m + 1, k, a, ats, h, ha, hm => by
    simp only [fldsM] at h
    split at h
    · cases h
    · rename_i hbe
      simp only [Prod.mk.injEq] at h
      obtain ⟨h1, h2⟩ := h
      obtain ⟨n1, n2, n3⟩ := nxtA_le hbe ha hm ht
      obtain ⟨q1, q2⟩ := fldsM_fit ht (m := m) (k := k + 1) (a := nxtA k a (entAt L t k)) (ats := (fldsM L t n m (k + 1) (nxtA k a (entAt L t k))).2) (by rw [← h1]) n2 n3
      rw [← h2]
      refine ⟨by simp [q1], fun j b hb => ?_⟩
      cases j with
      | zero =>
        obtain rfl : a = b := by simpa using hb
        exact ⟨ha, hm, n1⟩
      | succ j =>
        have := q2 j b (by simpa using hb)
        rw [show k + (j + 1) = k + 1 + j by omega]
        exact this
def padIn (L : List UInt8) : Nat → Nat → Option Nat
  | 0, _ => none
  | m + 1, e => if L.getD e 0 ≠ 0 then some e else padIn L m (e + 1)
def padAt (L : List UInt8) (e : Nat) : Option Nat := padIn L (r8 e - e) e
def padM (L : List UInt8) (t : Nat) (ats : List Nat) : Nat → Nat → Option Nat
  | 0, _ => none
  | m + 1, k => match padAt L (ats.getD k 0 + fv (entAt L t k) 5) with
    | some q => some q
    | none => padM L t ats m (k + 1)
section
variable {pr : Prog} (hp : Sub elfFns pr)
include hp
theorem pad_in {st : St} {p e0 : Nat} {L : List UInt8} {tb vE vA k3 : V} (hro : st.row p = some [bsl true L, tb, vE, vA]) (he : r8 e0 ≤ L.length) (hL : L.length ≤ 1099511627776) :
    ∃ r, cden pr (.loop [0, 3, 4, 5] false F193_elf_file_padding_b1) [(0, .ptr p 0), (3, k3), (4, .d (.i .i64 (e0 : Nat))), (5, .d (.i .i64 (e0 : Nat)))] st = some r ∧
      ((∃ e, r = (.exit 2, e, st) ∧ e.get 0 = some (.ptr p 0) ∧ e.get 3 = some k3 ∧ padAt L e0 = none) ∨ ∃ e q, r = (.ret, e, st) ∧ e.get 2 = some (.d (.i .i64 (q : Nat))) ∧ padAt L e0 = some q) := by
  obtain ⟨J2, hJ2⟩ : ∃ J2 : Out → Prop, ∀ r, J2 r ↔ ((∃ e, r = (.exit 2, e, st) ∧ e.get 0 = some (.ptr p 0) ∧ e.get 3 = some k3 ∧ padAt L e0 = none) ∨ ∃ e q, r = (.ret, e, st) ∧ e.get 2 = some (.d (.i .i64 (q : Nat))) ∧ padAt L e0 = some q) := ⟨_, fun _ => Iff.rfl⟩
  suffices h : ∃ r, cden pr (.loop [0, 3, 4, 5] false F193_elf_file_padding_b1) [(0, .ptr p 0), (3, k3), (4, .d (.i .i64 (e0 : Nat))), (5, .d (.i .i64 (e0 : Nat)))] st = some r ∧ J2 r by
    obtain ⟨r, h1, h2⟩ := h
    exact ⟨r, h1, (hJ2 r).1 h2⟩
  have hge := r8_ge e0
  obtain ⟨J, hJ⟩ : ∃ J : Nat → Env → St → Prop, ∀ m e s, J m e s ↔ ∃ i : Nat, m + i = r8 e0 ∧ e0 ≤ i ∧ e = [(0, .ptr p 0), (3, k3), (4, .d (.i .i64 (e0 : Nat))), (5, .d (.i .i64 (i : Nat)))] ∧ s = st ∧ padAt L e0 = padIn L m i := ⟨_, fun _ _ _ => Iff.rfl⟩
  refine loop_j J ?_ (n := r8 e0 - e0) ((hJ _ _ _).2 ⟨e0, by omega, Nat.le_refl _, rfl, rfl, rfl⟩)
  intro m e s hj
  obtain ⟨i, hm, hi, rfl, rfl, hpd⟩ := (hJ _ _ _).1 hj
  have hrd := fun st => den_round hp (st := st) e0 (by omega)
  have h1 : IntKind.wrap .i64 ((i : Int) + 1) = ((i + 1 : Nat) : Int) := by rw [wrap_i64 (by omega) (by omega)]; omega
  rcases Nat.lt_or_ge i (r8 e0) with h | h
  · obtain ⟨m', rfl⟩ : ∃ m', m = m' + 1 := ⟨m - 1, by omega⟩
    have hlt : (i : Int) < (r8 e0 : Int) := by omega
    obtain ⟨x, hx⟩ : ∃ x, L[i]? = some x := ⟨_, List.getElem?_eq_getElem (by omega)⟩
    obtain ⟨g1, g2⟩ := bsl_iaddr (nz := true) hx (k := .i64)
    have hgx : L.getD i 0 = x := by rw [List.getD_eq_getElem?_getD, hx]; rfl
    simp only [padIn, hgx] at hpd
    by_cases hx0 : x = 0
    · subst hx0
      have hq : ∃ m0, m0 < m' + 1 ∧ J m0 [(0, .ptr p 0), (3, k3), (4, .d (.i .i64 (e0 : Nat))), (5, .d (.i .i64 ((i + 1 : Nat) : Int)))] s := ⟨m', by omega, (hJ _ _ _).2 ⟨i + 1, by omega, by omega, rfl, rfl, by rw [hpd]; simp⟩⟩
      have g2' : ∀ s, loadV 1 false s (.ep ((byteCells L).drop i)) = some (.d (.i .u8 0)) := g2
      simp [F193_elf_file_padding_b1, hrd, hlt, h, hro, mkV, g1, g2', h1]
      simpa using hq
    · have hx0' : ¬ (x.toNat : Int) = 0 := fun e => hx0 (UInt8.toNat_inj.1 (Int.ofNat.inj e))
      have hx0'' : ¬ x.toNat = 0 := fun e => hx0 (UInt8.toNat_inj.1 e)
      simp [F193_elf_file_padding_b1, hrd, hlt, h, hro, mkV, g1, g2, h1, hx0', hx0'']
      exact (hJ2 _).2 (.inr ⟨_, i, rfl, by simp, by rw [hpd, if_pos hx0]⟩)
  · obtain rfl : i = r8 e0 := by omega
    obtain rfl : m = 0 := by omega
    simp [F193_elf_file_padding_b1, hrd]
    exact (hJ2 _).2 (.inl ⟨_, rfl, by simp, by simp, hpd⟩)
theorem den_padding {st : St} {p t n : Nat} {L : List UInt8} {vE vA : V} {tE tA : Nat} {ats : List Nat} (hro : st.row p = some [bsl true L, .d (.i .i64 (t : Nat)), vE, vA]) (hE : NL st vE tE ((entsTo L t n).map entD)) (hA : NL st vA tA (intC ats)) (hal : ats.length = n) (hn1 : 1 ≤ n) (hn18 : n ≤ 18) (ht : t % 8 = 0) (htL : t ≤ L.length) (hL : L.length ≤ 1099511627776)
    (hfit : ∀ k b, ats[k]? = some b → 0 < k → b + fv (entAt L t k) 5 ≤ t) :
    den pr 193 [.ptr p 0] st = some (.d (.i .i64 (match padM L t ats (n - 1) 1 with | some q => (q : Int) | none => -1)), st) := by
  rw [den_fn (hp.at 11 rfl) rfl rfl]
  obtain ⟨s1, hs1, hh, hti⟩ := pureStart (fn := F193_elf_file_padding) (st := st) rfl
  rw [hs1]
  have hr1 : s1.row p = some [bsl true L, .d (.i .i64 (t : Nat)), vE, vA] := (row_of_heap (by rw [hh])).trans hro
  have hElen := hE.len
  rw [List.length_map] at hElen
  have hEl : (entsTo L t n).length = n := by simp [entsTo]
  rw [hEl] at hElen
  simp [F193_elf_file_padding]
  generalize hO : cden pr (.loop _ _ _) _ _ = o
  obtain ⟨J2, hJ2⟩ : ∃ J2 : Out → Prop, ∀ r, J2 r ↔ ((∃ e, r = (.exit 0, e, s1) ∧ padM L t ats (n - 1) 1 = none) ∨ ∃ e q, r = (.ret, e, s1) ∧ e.get 2 = some (.d (.i .i64 (q : Nat))) ∧ padM L t ats (n - 1) 1 = some q) := ⟨_, fun _ => Iff.rfl⟩
  have key : ∃ r, o = some r ∧ J2 r := by
    rw [← hO]
    obtain ⟨J, hJ⟩ : ∃ J : Nat → Env → St → Prop, ∀ m e s, J m e s ↔ ∃ k : Nat, m + k = n ∧ 1 ≤ k ∧ e = [(0, .ptr p 0), (3, .d (.i .i64 (k : Nat)))] ∧ s = s1 ∧ padM L t ats (n - 1) 1 = padM L t ats m k := ⟨_, fun _ _ _ => Iff.rfl⟩
    refine loop_j J ?_ (n := n - 1) ((hJ _ _ _).2 ⟨1, by omega, Nat.le_refl _, by simp, rfl, rfl⟩)
    intro m e s hj
    obtain ⟨k, hm, hk1, rfl, rfl, hpd⟩ := (hJ _ _ _).1 hj
    have h1 : IntKind.wrap .i64 ((k : Int) + 1) = ((k + 1 : Nat) : Int) := by rw [wrap_i64 (by omega) (by omega)]; omega
    rcases Nat.lt_or_ge k n with h | h
    · obtain ⟨m', rfl⟩ : ∃ m', m = m' + 1 := ⟨m - 1, by omega⟩
      obtain ⟨b, hb⟩ : ∃ b, ats[k]? = some b := ⟨_, List.getElem?_eq_getElem (by omega)⟩
      have hfk := hfit k b hb (by omega)
      obtain ⟨F, hF⟩ : ∃ F, F = entAt L t k := ⟨_, rfl⟩
      rw [← hF] at hfk
      have hEk : (entsTo L t n)[k]? = some F := by simp [entsTo, h, hF]
      have hFl : F.length = 10 := by rw [hF]; exact entAt_len _ _ _
      have hsz := den_size hp (st := s) hr1 hE hEk hFl (by omega)
      obtain ⟨g1, g2⟩ := hA.get (i := k) (x := .i .i64 (b : Int)) (by simp [intC, hb]) (k := .i64)
      have w : IntKind.wrap .i64 ((b : Int) + (fv F 5 : Int)) = ((b + fv F 5 : Nat) : Int) := by rw [wrap_i64 (by omega) (by omega)]; omega
      have hbd : ats.getD k 0 = b := by rw [List.getD_eq_getElem?_getD, hb]; rfl
      obtain ⟨e0, he0⟩ : ∃ e0, e0 = b + fv F 5 := ⟨_, rfl⟩
      rw [← he0] at w hfk
      have hr8 : r8 e0 ≤ L.length := by unfold r8; omega
      obtain ⟨r', q1, q2⟩ := pad_in hp (st := s) (k3 := .d (.i .i64 (k : Nat))) hr1 hr8 hL
      simp only [padM, hbd, ← hF, ← he0] at hpd
      have hlt : (k : Int) < (n : Int) := by omega
      simp [F193_elf_file_padding_b0, hr1, mkV, hElen, hlt, h, g1, g2, hsz, w, q1]
      rcases q2 with ⟨e', rfl, u0, u3, hP⟩ | ⟨e', q, rfl, u2, hP⟩
      · rw [hP] at hpd
        have hq : ∃ m0, m0 < m' + 1 ∧ J m0 [(0, .ptr p 0), (3, .d (.i .i64 ((k + 1 : Nat) : Int)))] s := ⟨m', by omega, (hJ _ _ _).2 ⟨k + 1, by omega, by omega, rfl, rfl, hpd⟩⟩
        simp [u0, u3, h1]
        simpa using hq
      · rw [hP] at hpd
        simp
        exact (hJ2 _).2 (.inr ⟨_, q, rfl, u2, hpd⟩)
    · obtain rfl : k = n := by omega
      obtain rfl : m = 0 := by omega
      simp [F193_elf_file_padding_b0, hr1, mkV, hElen]
      exact (hJ2 _).2 (.inl ⟨_, rfl, hpd⟩)
  obtain ⟨r, rfl, hr⟩ := key
  rcases (hJ2 r).1 hr with ⟨e, rfl, hP⟩ | ⟨e, q, rfl, h2, hP⟩
  · simp [hP]
  · simp [h2, hP]
end
end Go.Sh
