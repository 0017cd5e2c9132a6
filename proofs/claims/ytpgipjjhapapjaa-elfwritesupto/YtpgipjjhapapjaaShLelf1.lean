/- The fields of a file of sections: what lays them and reads them. -/
import Derived.Test.YtpgipjjhapapjaaShLstrs1
import Derived.Test.YtpgipjjhapapjaaShFelf
import Derived.Test.YtpgipjjhapapjaaShFbytes
import Derived.Test.YtpgipjjhapapjaaShFref9
import Derived.Test.YtpgipjjhapapjaaShFlaw9
import Derived.Test.YtpgipjjhapapjaaShLstrsF
import Derived.Test.YtpgipjjhapapjaaShBe
set_option linter.unusedVariables false
set_option linter.unusedSimpArgs false
namespace Go.Sh
/-- A number's bytes, lowest first. -/
def lowB (w v : Nat) : List UInt8 := (List.range w).map fun i => UInt8.ofNat (v / 256 ^ i)
@[simp] theorem lowB_len (w v : Nat) : (lowB w v).length = w := by simp [lowB]
theorem lowB_succ (w v : Nat) : lowB (w + 1) v = lowB w v ++ [UInt8.ofNat (v / 256 ^ w)] := by simp [lowB, List.range_succ]
/-- Fields: how wide, and what. -/
abbrev Fld := Nat × Nat
def fldD (f : Fld) : List D := [.i .i64 (f.1 : Int), .i .u64 (f.2 : Int)]
def laidF (fs : List Fld) : List UInt8 := (fs.map fun f => lowB f.1 f.2).flatten
def widF (fs : List Fld) : Nat := (fs.map (·.1)).sum
theorem laidF_len (fs : List Fld) : (laidF fs).length = widF fs := by
  induction fs with
  | nil => rfl
  | cons f r ih => simp only [laidF, widF, List.map_cons, List.flatten_cons, List.length_append, lowB_len, List.sum_cons] at ih ⊢; rw [ih]
theorem laidF_snoc (fs : List Fld) (f : Fld) : laidF (fs ++ [f]) = laidF fs ++ lowB f.1 f.2 := by simp [laidF]
theorem widF_snoc (fs : List Fld) (f : Fld) : widF (fs ++ [f]) = widF fs + f.1 := by simp [widF]
theorem widF_take (fs : List Fld) (i : Nat) : widF (fs.take i) ≤ widF fs := by
  conv => rhs; rw [← List.take_append_drop i fs]
  simp only [widF, List.map_append, List.sum_append]
  omega
def ownB (T : Nat) (L : List UInt8) : V := .own 1 L.length (decide (L ≠ [])) (byteCells L) T
theorem wrapE8 (x : Int) : IntKind.wrap .u8 x = x % 256 := by simp [IntKind.wrap, IntKind.signed, IntKind.bits]
theorem wrapE64 (x : Int) : IntKind.wrap .u64 x = x % 18446744073709551616 := rfl
theorem byte_shr (v i : Nat) : IntKind.wrap .u8 ((v : Int).fdiv (2 ^ (8 * i))) = ((UInt8.ofNat (v / 256 ^ i)).toNat : Int) := by
  rw [wrapE8, Int.fdiv_eq_ediv_of_nonneg _ (Int.le_of_lt (Int.pow_pos (by decide))), UInt8.toNat_ofNat']
  have : (2 : Int) ^ (8 * i) = ((256 ^ i : Nat) : Int) := by
    rw [Int.pow_mul, Int.natCast_pow]
    rfl
  rw [this, ← Int.natCast_ediv, Int.natCast_emod]
  rfl
@[simp] theorem ownB_esc {T t h : Nat} {L : List UInt8} {st : St} (hT : T < t) : esc1 st h t (ownB T L) = some (ownB T L) := by simp [ownB, hT]
@[simp] theorem ownB_close {T : Nat} {L : List UInt8} : close1 (ownB T L) = some (bsl (decide (L ≠ [])) L) := rfl
@[simp] theorem ownB_ok1 {T : Nat} {L : List UInt8} : V.ok1 (ownB T L) = true := rfl
@[simp] theorem ownB_len {T : Nat} {L : List UInt8} : lenV (ownB T L) = some L.length := rfl
@[simp] theorem ownB_vw {T : Nat} {L : List UInt8} {st : St} : vw 1 st (ownB T L) = some (L.length, byteCells L) := rfl
def elfFns : List (Nat × SFn) := [(186, F186_elf_may), (195, F195_elf_small), (187, F187_elf_round), (188, F188_elf_header), (189, F189_elf_laid), (202, F202_elf_laid_own), (190, F190_elf_entry), (199, F199_elf_told), (177, F177_elf_Write),
  (191, F191_elf_file_head), (192, F192_elf_file_fields), (193, F193_elf_file_padding), (194, F194_elf_file_names), (196, F196_elf_Read_1), (197, F197_elf_file_data), (198, F198_bytes_Clone), (200, F200_elf_file_wrong), (201, F201_elf_file_size), (178, F178_elf_Read)]
section
variable {pr : Prog}
theorem ownB_app {H : List (Option Blk)} {T : List Nat} {bs : List Blk} {fl tf n : Nat} {L : List UInt8} (b : UInt8) (hn : n = L.length) (htf : tf ≤ T.length) (hb : L.length + 1 ≤ 140737488355328) :
    appV 1 1 (S H T bs [n] fl tf) (ownB T.length L) (.d (.sl 1 true [.i .u8 b.toNat])) = some (ownB T.length (L ++ [b]), S H T bs [L.length + 1] fl tf) := by
  subst hn
  have ht : (S H T bs [L.length] fl tf).tips[T.length]? = some L.length := by rw [S_tip0]; rfl
  have hs := S_tset0 (H := H) (T := T) (bs := bs) (ts := [L.length]) (fl := fl) (tf := tf) (n := L.length + 1)
  simp only [List.set_cons_zero] at hs
  simp only [appV, ownB, vw, ht]
  simp [htf, hb, byteCells]
/-- One field's bytes. -/
theorem laid_in {H : List (Option Blk)} {T : List Nat} {fl tf n : Nat} {L : List UInt8} {fsv nn ii : V} {w v : Nat} (hn : n = L.length) (htf : tf ≤ T.length) (hw : w ≤ 8) (hb : L.length + w ≤ 140737488355328) :
    ∃ e, cden pr (.loop [3, 5, 7, 8, 9, 14, 15] false F189_elf_laid_b1) [(3, ownB T.length L), (5, .ptr H.length 0), (7, fsv), (8, nn), (9, ii), (14, .d (.i .i64 w)), (15, .d (.i .i64 0))] (S H T [.row (ofDs (fldD (w, v)))] [n] fl tf) = some (.exit 2, e, S H T [.row (ofDs (fldD (w, v)))] [L.length + w] fl tf) ∧
      e.get 3 = some (ownB T.length (L ++ lowB w v)) ∧ e.get 7 = some fsv ∧ e.get 8 = some nn ∧ e.get 9 = some ii := by
  subst hn
  generalize hL : cden pr (.loop _ _ _) _ _ = o
  obtain ⟨r, rfl, hQ⟩ : ∃ r, o = some r ∧ ∃ e, r = (.exit 2, e, S H T [.row (ofDs (fldD (w, v)))] [L.length + w] fl tf) ∧ e.get 3 = some (ownB T.length (L ++ lowB w v)) ∧ e.get 7 = some fsv ∧ e.get 8 = some nn ∧ e.get 9 = some ii := by
    rw [← hL]
    refine loop_n w (fun i => [(3, ownB T.length (L ++ lowB i v)), (5, .ptr H.length 0), (7, fsv), (8, nn), (9, ii), (14, .d (.i .i64 w)), (15, .d (.i .i64 i))]) (fun i => S H T [.row (ofDs (fldD (w, v)))] [(L ++ lowB i v).length] fl tf) ?_ (by simp [lowB]) (by simp [lowB])
    intro i hi
    rcases Nat.lt_or_ge i w with h | h
    · have h1 : IntKind.wrap .i64 ((i : Int) + 1) = i + 1 := wrap_i64 (by omega) (by omega)
      have h2 : IntKind.wrap .i64 (8 * (i : Int)) = 8 * i := wrap_i64 (by omega) (by omega)
      have h3 : (0 : Int) ≤ 8 * i := by omega
      have h4 : min (8 * (i : Int)).toNat 64 = 8 * i := by omega
      have ha := ownB_app (H := H) (T := T) (bs := [.row (ofDs (fldD (w, v)))]) (fl := fl) (tf := tf) (L := L ++ lowB i v) (UInt8.ofNat (v / 256 ^ i)) rfl htf (by simp; omega)
      simp only [List.append_assoc, ← lowB_succ] at ha
      simp [F189_elf_laid_b1, h, h1, h2, h3, h4, shI_shr, IntKind.bits, fillV, lay, reps, ofDs, byte_shr, fldD, loadV, mkV] at ha ⊢
      simp [ha]
      exact ⟨h, h1, by rw [Nat.add_assoc]⟩
    · obtain rfl : i = w := by omega
      simp [F189_elf_laid_b1]
  obtain ⟨e, rfl, h0⟩ := hQ
  exact ⟨e, rfl, h0⟩
theorem fld_els (fs : List Fld) : ∀ x ∈ fs.map fldD, x.length = 2 := by
  intro x hx
  simp only [List.mem_map] at hx
  obtain ⟨_, _, rfl⟩ := hx
  rfl
theorem laid_out {H : List (Option Blk)} {T : List Nat} {fl tf : Nat} {fs : List Fld} {u : V} (hu : SlD 2 u (fs.map fldD)) (htf : tf ≤ T.length) (hfl : fl ≤ H.length) (hw : ∀ f ∈ fs, f.1 ≤ 8) (hb : widF fs ≤ 140737488355328) (hn : fs.length ≤ 140737488355328) :
    ∃ e, cden pr (.loop [3, 7, 8, 9] true F189_elf_laid_b0) [(3, ownB T.length []), (7, u), (8, .d (.i .i64 fs.length)), (9, .d (.i .i64 0))] (S H T [] [0] fl tf) = some (.exit 0, e, S H T [] [widF fs] fl tf) ∧ e.get 3 = some (ownB T.length (laidF fs)) := by
  generalize hL : cden pr (.loop _ _ _) _ _ = o
  obtain ⟨r, rfl, hQ⟩ : ∃ r, o = some r ∧ ∃ e, r = (.exit 0, e, S H T [] [widF fs] fl tf) ∧ e.get 3 = some (ownB T.length (laidF fs)) := by
    rw [← hL]
    refine loop_n fs.length (fun i => [(3, ownB T.length (laidF (fs.take i))), (7, u), (8, .d (.i .i64 fs.length)), (9, .d (.i .i64 i))]) (fun i => S H T [] [widF (fs.take i)] fl tf) ?_ (by simp [laidF]) (by simp [widF])
    intro i hi
    rcases Nat.lt_or_ge i fs.length with h | h
    · obtain ⟨f, hf⟩ : ∃ f, fs[i]? = some f := ⟨_, List.getElem?_eq_getElem h⟩
      obtain ⟨w, v⟩ := f
      have h1 : IntKind.wrap .i64 ((i : Int) + 1) = i + 1 := wrap_i64 (by omega) (by omega)
      have htk : fs.take (i + 1) = fs.take i ++ [(w, v)] := by rw [List.take_add_one, hf]; rfl
      have hia := hu.iaddr (i := (i : Int)) (k := .i64) (by omega) (by simpa using h)
      have hld : ∀ s, loadV 2 true s (elP 2 u i 0) = some (.agg (ofDs (fldD (w, v)))) := fun s => by
        rw [hu.load (el := fldD (w, v)) (by simp [hf]) (by omega) (by omega)]
        rfl
      have hwid := widF_take fs (i + 1)
      rw [htk, widF_snoc] at hwid
      obtain ⟨e, g1, g2, g3, g4, g5⟩ := laid_in (pr := pr) (H := H) (T := T) (fl := H.length) (tf := tf) (n := widF (fs.take i)) (L := laidF (fs.take i)) (fsv := u) (nn := .d (.i .i64 fs.length)) (ii := .d (.i .i64 i)) (w := w) (v := v) (laidF_len _).symm htf (hw _ (List.mem_of_getElem? hf)) (by rw [laidF_len]; omega)
      have hsb := fun c b ts => S_setBlk0 (H := H) (T := T) (bs := [c]) (ts := ts) (fl := H.length) (tf := tf) (b := b) (Nat.le_refl _)
      rw [laidF_len] at g1
      simp only [Int.toNat_natCast] at hia
      have w1 : widF (fs.take (i + 1)) = widF (fs.take i) + w := by rw [htk, widF_snoc]
      have w2 : laidF (fs.take (i + 1)) = laidF (fs.take i) ++ lowB w v := by rw [htk, laidF_snoc]
      simp [F189_elf_laid_b0, h, h1, hia, hld, hu.esc, ofDs, fldD, hsb, lay, mkV] at g1 ⊢
      simp [g1, g2, g3, g4, g5, hu.esc, w1, w2, h, h1]
    · obtain rfl : i = fs.length := by omega
      simp [F189_elf_laid_b0, hu.esc]
  obtain ⟨e, rfl, h0⟩ := hQ
  exact ⟨e, rfl, h0⟩
variable (hp : Sub elfFns pr) {st : St}
include hp
theorem den_laidF {v : V} {fs : List Fld} (hv : SlC 2 v (fs.map fldD)) (hw : ∀ f ∈ fs, f.1 ≤ 8) (hb : widF fs ≤ 140737488355328) (hn : fs.length ≤ 140737488355328) : den pr 189 [v] st = some (bsl (decide (laidF fs ≠ [])) (laidF fs), st) := by
  obtain ⟨u, hc, hu⟩ := hv.close
  refine den_shut (hp.at 4 rfl) rfl rfl (by simp [hc]; rfl) ?_
  obtain ⟨e, g1, g2⟩ := laid_out (pr := pr) (H := []) (T := []) (fl := 0) (tf := 0) hu (Nat.le_refl _) (Nat.le_refl _) hw hb hn
  have hlen := hu.len
  rw [List.length_map] at hlen
  have e0 : ∀ bs ts fl tf, S [] [] bs ts fl tf = s0 bs ts fl tf := fun _ _ _ _ => by simp [S, s0]
  simp only [e0] at g1
  have e1 : ownB ([] : List Nat).length [] = .own 1 0 false [] 0 := rfl
  rw [e1] at g1
  simp [F189_elf_laid, hlen, g1, g2, ownB, bsl]
theorem den_laidO {v : V} {fs : List Fld} (hv : SlD 2 v (fs.map fldD)) (htf : st.tfloor ≤ st.tips.length) (hfl : st.floor ≤ st.heap.length) (hw : ∀ f ∈ fs, f.1 ≤ 8) (hb : widF fs ≤ 140737488355328) (hn : fs.length ≤ 140737488355328) :
    den pr 202 [v] st = some (ownB st.tips.length (laidF fs), { st with tips := st.tips ++ [widF fs] }) := by
  obtain ⟨e, g1, g2⟩ := laid_out (pr := pr) (H := st.heap) (T := st.tips) (fl := st.floor) (tf := st.tfloor) hv htf hfl hw hb hn
  have hlen := hv.len
  rw [List.length_map] at hlen
  have e0 : ∀ ts, S st.heap st.tips [] ts st.floor st.tfloor = { st with tips := st.tips ++ ts } := fun _ => by simp [S]
  simp only [e0] at g1
  have e1 : ownB st.tips.length [] = .own 1 0 false [] st.tips.length := rfl
  have e2 : F202_elf_laid_own_b0 = F189_elf_laid_b0 := rfl
  rw [e1] at g1
  rw [den_fn (hp.at 5 rfl) rfl rfl, start_raw _ rfl]
  simp [F202_elf_laid_own, hlen, e2, g1, g2]
end
/-! ### Sections -/
structure Sec where
  nm : List UInt8
  ty : Int
  fl : Int
  li : Int
  inf : Int
  al : Int
  es : Int
  data : List UInt8
  nz : Bool
def Sec.cells (s : Sec) : List D := [.s s.nm, .i .i64 s.ty, .i .i64 s.fl, .i .i64 s.li, .i .i64 s.inf, .i .i64 s.al, .i .i64 s.es, .sl s.data.length s.nz (byteCells s.data)]
/-- What of a section is told. -/
structure SKey where
  nm : List UInt8
  ty : Int
  fl : Int
  li : Int
  inf : Int
  al : Int
  es : Int
  data : List UInt8
  deriving DecidableEq
def Sec.key (s : Sec) : SKey := ⟨s.nm, s.ty, s.fl, s.li, s.inf, s.al, s.es, s.data⟩
def smallI (x : Int) : Bool := decide (0 ≤ x) && decide (x ≤ 4294967295)
def mayS (s : Sec) : Bool := okNm s.nm && smallI s.ty && smallI s.li && smallI s.inf && decide (0 ≤ s.fl) && decide (0 ≤ s.al) && decide (0 ≤ s.es)
def r8 (x : Nat) : Nat := (x + 7) / 8 * 8
def hdrF (table n : Nat) : List Fld := [(4, 1179403647), (4, 65794), (8, 0), (2, 1), (2, 247), (4, 1), (8, 0), (8, 0), (8, table), (4, 0), (2, 64), (2, 0), (2, 0), (2, 64), (2, n), (2, n - 1)]
def entF (s : Sec) (name at' : Nat) : List Fld := [(4, name), (4, s.ty.toNat), (8, s.fl.toNat), (8, 0), (8, at'), (8, s.data.length), (4, s.li.toNat), (4, s.inf.toNat), (8, s.al.toNat), (8, s.es.toNat)]
theorem andNot7 (m : Nat) (h : m < 2 ^ 62) : bitI .andNot .i64 (m : Int) 7 = some (.i .i64 ((m / 8 * 8 : Nat) : Int)) := by
  have e1 : ∀ j < 64, (18446744073709551608 : Nat).testBit j = decide (3 ≤ j) := by decide
  have e2 : m &&& 18446744073709551608 = m / 8 * 8 := by
    refine Nat.eq_of_testBit_eq fun j => ?_
    have e3 : m / 8 * 8 = (m >>> 3) <<< 3 := by rw [Nat.shiftLeft_eq, Nat.shiftRight_eq_div_pow]
    rw [e3, Nat.testBit_and, Nat.testBit_shiftLeft, Nat.testBit_shiftRight]
    rcases Nat.lt_or_ge j 64 with hj | hj
    · rw [e1 j hj]
      by_cases h3 : 3 ≤ j
      · rw [show 3 + (j - 3) = j by omega]
        simp [h3]
      · simp [h3]
    · have hm : m.testBit j = false := Nat.testBit_lt_two_pow (Nat.lt_of_lt_of_le h (Nat.pow_le_pow_right (by decide) (by omega)))
      rw [hm, show 3 + (j - 3) = j by omega, hm]
      simp
  unfold bitI
  simp only
  have e4 : (BitVec.ofInt (IntKind.bits .i64) (m : Int) &&& ~~~BitVec.ofInt (IntKind.bits .i64) 7).toNat = m / 8 * 8 := by
    rw [BitVec.toNat_and]
    have e5 : (~~~BitVec.ofInt (IntKind.bits .i64) 7).toNat = 18446744073709551608 := by decide
    have e6 : (BitVec.ofInt (IntKind.bits .i64) (m : Int)).toNat = m := by
      rw [ofInt_nat, BitVec.toNat_ofNat]
      exact Nat.mod_eq_of_lt (Nat.lt_trans h (by decide))
    rw [e5, e6, e2]
  rw [e4, wrap_i64 (by omega) (by omega)]
section
variable {pr : Prog} (hp : Sub elfFns pr) {st : St}
include hp
theorem den_round (x : Nat) (h : x < 2 ^ 61) : den pr 187 [.d (.i .i64 x)] st = some (.d (.i .i64 (r8 x)), st) := by
  refine den_shut (hp.at 2 rfl) rfl rfl (by simp; rfl) ?_
  have h1 : IntKind.wrap .i64 ((x : Int) + 7) = ((x + 7 : Nat) : Int) := by rw [wrap_i64 (by omega) (by omega)]; omega
  have h2 := andNot7 (x + 7) (by omega)
  have e : ((x + 7 : Nat) : Int) = x + 7 := by omega
  rw [e] at h1 h2
  simp [F187_elf_round, h1, h2, r8]
theorem den_small (x : Int) : den pr 195 [.d (.i .i64 x)] st = some (.d (.b (smallI x)), st) := by
  refine den_shut (hp.at 1 rfl) rfl rfl (by simp; rfl) ?_
  by_cases h : 0 ≤ x <;> simp [F195_elf_small, smallI, h]
theorem den_header (t n : Nat) (ht : t < 2 ^ 62) (hn : 1 ≤ n) (hn' : n ≤ 1000) : den pr 188 [.d (.i .i64 t), .d (.i .i64 n)] st = some (.d (.sl 16 true ((hdrF t n).map fldD).flatten), st) := by
  refine den_shut (hp.at 3 rfl) rfl rfl (by simp; rfl) ?_
  have h1 : IntKind.wrap .u64 (t : Int) = t := by rw [wrapE64]; omega
  have h2 : IntKind.wrap .u64 (n : Int) = n := by rw [wrapE64]; omega
  have h3 : IntKind.wrap .i64 ((n : Int) - 1) = ((n - 1 : Nat) : Int) := by rw [wrap_i64 (by omega) (by omega)]; omega
  have h4 : IntKind.wrap .u64 ((n - 1 : Nat) : Int) = ((n - 1 : Nat) : Int) := by rw [wrapE64]; omega
  simp [F188_elf_header, fillV, lay, reps, ofDs, h1, h2, h3, h4, appV, vw, hdrF, fldD, toDs]
theorem den_entry (s : Sec) (name at' : Nat) (h1 : name < 2 ^ 62) (h2 : at' < 2 ^ 62) (h3 : s.data.length < 2 ^ 62) (hm : 0 ≤ s.ty ∧ 0 ≤ s.fl ∧ 0 ≤ s.li ∧ 0 ≤ s.inf ∧ 0 ≤ s.al ∧ 0 ≤ s.es) (hx : s.ty < 2 ^ 63 ∧ s.fl < 2 ^ 63 ∧ s.li < 2 ^ 63 ∧ s.inf < 2 ^ 63 ∧ s.al < 2 ^ 63 ∧ s.es < 2 ^ 63) :
    den pr 190 [.agg (ofDs s.cells), .d (.i .i64 name), .d (.i .i64 at')] st = some (.d (.sl 10 true ((entF s name at').map fldD).flatten), st) := by
  refine den_shut (hp.at 6 rfl) rfl rfl (by simp; rfl) ?_
  obtain ⟨nm, ty, fl, li, inf, al, es, data, nz⟩ := s
  simp only at hm hx h3
  have w : ∀ x : Int, 0 ≤ x → x < 2 ^ 63 → IntKind.wrap .u64 x = ((x.toNat : Nat) : Int) := fun x a b => by rw [wrapE64]; omega
  have e1 : IntKind.wrap .u64 (name : Int) = name := by rw [wrapE64]; omega
  have e2 : IntKind.wrap .u64 (at' : Int) = at' := by rw [wrapE64]; omega
  have e3 : IntKind.wrap .u64 (data.length : Int) = data.length := by rw [wrapE64]; omega
  simp [F190_elf_entry, fillV, lay, reps, ofDs, Sec.cells, e1, e2, e3, w ty hm.1 hx.1, w fl hm.2.1 hx.2.1, w li hm.2.2.1 hx.2.2.1, w inf hm.2.2.2.1 hx.2.2.2.1, w al hm.2.2.2.2.1 hx.2.2.2.2.1, w es hm.2.2.2.2.2 hx.2.2.2.2.2, appV, vw, entF, fldD, toDs]
variable (hs : Sub strsFns pr) (hq : SubP strsPrims pr)
include hs hq
theorem den_may (s : Sec) : den pr 186 [.agg (ofDs s.cells)] st = some (.d (.b (mayS s)), st) := by
  refine den_shut (hp.at 0 rfl) rfl rfl (by simp; rfl) ?_
  obtain ⟨nm, ty, fl, li, inf, al, es, data, nz⟩ := s
  have hi := fun st => den_idxStr hs hq (st := st) nm
  have hsm := fun st x => den_small hp (st := st) x
  have hz := idx_neg nm
  have bad : okNm nm = false → mayS ⟨nm, ty, fl, li, inf, al, es, data, nz⟩ = false := fun h => by simp [mayS, h]
  by_cases h0 : nm = []
  · subst h0
    simp [F186_elf_may, Sec.cells, ofDs, bad (by simp [okNm])]
  · have hl : 0 < nm.length := List.length_pos_iff.2 h0
    have he : nm.isEmpty = false := by cases nm <;> simp at h0 ⊢
    by_cases h1 : nm.length ≤ 64
    · have h1' : (nm.length : Int) ≤ 64 := by omega
      by_cases h2 : Lib.indexByte nm 0 < 0
      · have h3 := hz.1 h2
        have h4 : okNm nm = true := by unfold okNm; rw [h3]; simp [hl, h1]
        cases c1 : smallI ty with
        | false => simp [F186_elf_may, Sec.cells, ofDs, he, h1', hi, h2, h4, hsm, mayS, c1]
        | true =>
        cases c2 : smallI li with
        | false => simp [F186_elf_may, Sec.cells, ofDs, he, h1', hi, h2, h4, hsm, mayS, c1, c2]
        | true =>
        cases c3 : smallI inf with
        | false => simp [F186_elf_may, Sec.cells, ofDs, he, h1', hi, h2, h4, hsm, mayS, c1, c2, c3]
        | true =>
        by_cases c4 : 0 ≤ fl
        · by_cases c5 : 0 ≤ al
          · by_cases c6 : 0 ≤ es <;> simp [F186_elf_may, Sec.cells, ofDs, he, h1', hi, h2, h4, hsm, mayS, c1, c2, c3, c4, c5, c6]
          · simp [F186_elf_may, Sec.cells, ofDs, he, h1', hi, h2, h4, hsm, mayS, c1, c2, c3, c4, c5]
        · simp [F186_elf_may, Sec.cells, ofDs, he, h1', hi, h2, h4, hsm, mayS, c1, c2, c3, c4]
      · have h3 : nm.contains 0 = true := by
          cases hc : nm.contains 0 with
          | false => exact absurd (hz.2 hc) h2
          | true => rfl
        have h4 : okNm nm = false := by unfold okNm; rw [h3]; simp
        simp [F186_elf_may, Sec.cells, ofDs, he, h1', hi, h2, bad h4]
    · have h1' : ¬ (nm.length : Int) ≤ 64 := by omega
      have h4 : okNm nm = false := by unfold okNm; simp [h1]
      simp [F186_elf_may, Sec.cells, ofDs, he, h1', bad h4]
end
/-! ### Reading -/
section
variable {pr : Prog}
variable (hp : Sub elfFns pr) {st : St}
include hp
end
end Go.Sh

/- Sections copied and compared. -/
set_option linter.unusedVariables false
set_option linter.unusedSimpArgs false
namespace Go.Sh
def ref9Fns : List (Nat × SFn) := [(176, F176_spindleref9_CopySections), (179, F179_spindleref9_SameSections), (185, F185_spindleref9_SameSection), (184, F184_spindlelaw9_plain)]
def ref9bFns : List (Nat × SFn) := [(179, F179_spindleref9_SameSections), (185, F185_spindleref9_SameSection), (184, F184_spindlelaw9_plain)]
def Sec.cp (s : Sec) : Sec := { s with nz := true }
theorem Sec.cells_len (s : Sec) : s.cells.length = 8 := rfl
theorem sec_els (ss : List Sec) : ∀ x ∈ ss.map Sec.cells, x.length = 8 := by
  intro x hx
  simp only [List.mem_map] at hx
  obtain ⟨_, _, rfl⟩ := hx
  rfl
theorem secC_len (l : List Sec) : (l.map Sec.cells).flatten.length = l.length * 8 := by
  induction l with
  | nil => rfl
  | cons f r ih => simp only [List.map_cons, List.flatten_cons, List.length_append, ih, List.length_cons, Sec.cells_len]; omega
def secV (ss : List Sec) (nz : Bool) : V := .d (.sl ss.length nz (ss.map Sec.cells).flatten)
theorem secV_c (ss : List Sec) (nz : Bool) : SlC 8 (secV ss nz) (ss.map Sec.cells) := SlC.of_sl (sec_els ss) (by simp) rfl
section
variable {pr : Prog} (hp : Sub ref9Fns pr) {st : St}
include hp
end
section
variable {pr : Prog} (hp : Sub ref9bFns pr) {st : St}
include hp
theorem den_Same9b (a b : Sec) : den pr 185 [.agg (ofDs a.cells), .agg (ofDs b.cells)] st = some (.d (.b (decide (a.key = b.key))), st) := by
  refine den_shut (hp.at 1 rfl) rfl rfl (by simp; rfl) ?_
  obtain ⟨nm, ty, fl, li, inf, al, es, data, nz⟩ := a
  obtain ⟨nm', ty', fl', li', inf', al', es', data', nz'⟩ := b
  have hbs : ∀ (nz : Bool) (L : List UInt8) (st : St), b2sV st (.d (.sl L.length nz (byteCells L))) = some (.d (.s L)) := fun nz L st => bsl_b2s nz L st
  by_cases c1 : nm = nm'
  · by_cases c2 : ty = ty'
    · by_cases c3 : fl = fl'
      · by_cases c4 : li = li'
        · by_cases c5 : inf = inf'
          · by_cases c6 : al = al'
            · by_cases c7 : es = es'
              · by_cases c8 : data = data' <;> simp [F185_spindleref9_SameSection, Sec.cells, ofDs, Sec.key, c1, c2, c3, c4, c5, c6, c7, c8, hbs]
              · simp [F185_spindleref9_SameSection, Sec.cells, ofDs, Sec.key, c1, c2, c3, c4, c5, c6, c7]
            · simp [F185_spindleref9_SameSection, Sec.cells, ofDs, Sec.key, c1, c2, c3, c4, c5, c6]
          · simp [F185_spindleref9_SameSection, Sec.cells, ofDs, Sec.key, c1, c2, c3, c4, c5]
        · simp [F185_spindleref9_SameSection, Sec.cells, ofDs, Sec.key, c1, c2, c3, c4]
      · simp [F185_spindleref9_SameSection, Sec.cells, ofDs, Sec.key, c1, c2, c3]
    · simp [F185_spindleref9_SameSection, Sec.cells, ofDs, Sec.key, c1, c2]
  · have c1b : (nm == nm') = false := by simpa using c1
    simp [F185_spindleref9_SameSection, Sec.cells, ofDs, Sec.key, c1, c1b]
theorem den_Sames9b {v v' : V} {a b : List Sec} (hv : SlC 8 v (a.map Sec.cells)) (hv' : SlC 8 v' (b.map Sec.cells)) (hn : a.length ≤ 140737488355328) (hn' : b.length ≤ 140737488355328) :
    den pr 179 [v, v'] st = some (.d (.b (decide (a.map Sec.key = b.map Sec.key))), st) := by
  obtain ⟨u, hc, hu⟩ := hv.close
  obtain ⟨u', hc', hu'⟩ := hv'.close
  refine den_shut (hp.at 0 rfl) rfl rfl (by simp [hc, hc']; rfl) ?_
  have hlen := hu.len
  rw [List.length_map] at hlen
  have hlen' := hu'.len
  rw [List.length_map] at hlen'
  by_cases hl : a.length = b.length
  · simp [F179_spindleref9_SameSections, hlen, hlen', hl]
    generalize hO : cden pr (.loop _ _ _) _ _ = o
    obtain ⟨r, rfl, hQ⟩ : ∃ r, o = some r ∧ ((a.map Sec.key = b.map Sec.key ∧ ∃ e s, r = (.exit 0, e, s)) ∨ (a.map Sec.key ≠ b.map Sec.key ∧ ∃ e s, r = (.ret, e, s) ∧ e.get 4 = some (.d (.b false)))) := by
      rw [← hO]
      refine loop_j (fun n e s => ∃ i, n = a.length - i ∧ i ≤ a.length ∧ e = [(0, u), (1, u'), (5, .d (.i .i64 (i : Nat)))] ∧ s = s0 [] [] 0 0 ∧ (a.take i).map Sec.key = (b.take i).map Sec.key) ?_ (n := a.length) ⟨0, by omega, by omega, by simp, by simp, by simp⟩
      rintro n e s ⟨i, rfl, hi, rfl, rfl, hq⟩
      rcases Nat.lt_or_ge i a.length with h | h
      · obtain ⟨x, hx⟩ : ∃ x, a[i]? = some x := ⟨_, List.getElem?_eq_getElem h⟩
        obtain ⟨y, hy⟩ : ∃ y, b[i]? = some y := ⟨_, List.getElem?_eq_getElem (by omega)⟩
        have h1 : IntKind.wrap .i64 ((i : Int) + 1) = i + 1 := wrap_i64 (by omega) (by omega)
        have hia := hu.iaddr (i := (i : Int)) (k := .i64) (by omega) (by simpa using h)
        have hia' := hu'.iaddr (i := (i : Int)) (k := .i64) (by omega) (by simp; omega)
        simp only [Int.toNat_natCast] at hia hia'
        have hld : ∀ st, loadV 8 true st (elP 8 u i 0) = some (.agg (ofDs x.cells)) := fun st => by
          rw [hu.load (el := x.cells) (by simp [hx]) (by omega) (by omega)]
          rfl
        have hld' : ∀ st, loadV 8 true st (elP 8 u' i 0) = some (.agg (ofDs y.cells)) := fun st => by
          rw [hu'.load (el := y.cells) (by simp [hy]) (by omega) (by omega)]
          rfl
        have hsm := fun st => den_Same9b hp (st := st) x y
        by_cases hxy : x.key = y.key
        · rw [decide_eq_true hxy] at hsm
          simp [F179_spindleref9_SameSections_b0, hlen, h, h1, hia, hia', hld, hld', hsm]
          refine ⟨_, Nat.lt_of_lt_of_le ?_ (Nat.le_refl _), i + 1, rfl, h, rfl, ?_⟩
          · omega
          · have hx' : (a.map Sec.key)[i]? = some x.key := by simp [hx]
            have hy' : (b.map Sec.key)[i]? = some y.key := by simp [hy]
            simp only [List.map_take] at hq ⊢
            rw [List.take_add_one, List.take_add_one, hx', hy', hxy, hq]
        · rw [decide_eq_false hxy] at hsm
          simp [F179_spindleref9_SameSections_b0, hlen, h, h1, hia, hia', hld, hld', hsm]
          intro he
          have := congrArg (fun l => l[i]?) he
          simp [hx, hy] at this
          exact hxy this
      · obtain rfl : i = a.length := by omega
        simp [F179_spindleref9_SameSections_b0, hlen]
        rw [List.take_of_length_le (Nat.le_refl _), List.take_of_length_le (by omega)] at hq
        exact hq
    rcases hQ with ⟨hq, e, s, rfl⟩ | ⟨hq, e, s, rfl, h4⟩
    · simp [hq]
    · simp [hq, h4]
  · have : a.map Sec.key ≠ b.map Sec.key := fun h => hl (by simpa using congrArg List.length h)
    have hl' : ¬ (a.length : Int) = b.length := by omega
    simp [F179_spindleref9_SameSections, hlen, hlen', hl', this]
theorem den_plainb (nm L : List UInt8) (nz : Bool) (v : V) (hv : close1 v = some (bsl nz L)) : den pr 184 [.d (.s nm), v] st = some (.agg (ofDs (Sec.cells ⟨nm, 1, 6, 0, 0, 8, 0, L, nz⟩)), st) := by
  refine den_shut (hp.at 2 rfl) rfl rfl (by simp [hv]; rfl) ?_
  simp [F184_spindlelaw9_plain, Sec.cells, ofDs, fillV, lay, bsl]
end
section
variable {pr : Prog} (hp : Sub ref9Fns pr) {st : St}
include hp
end
end Go.Sh

/- Sections written: the names. -/
set_option linter.unusedVariables false
set_option linter.unusedSimpArgs false
namespace Go.Sh
def addNm (ns : List Nm) (s : Nm) : List Nm := if s ∈ ns then ns else ns ++ [s]
def nmsOf (l : List Sec) : List Nm := l.foldl (fun ns s => addNm ns s.nm) []
theorem nmsOf_snoc (l : List Sec) (s : Sec) : nmsOf (l ++ [s]) = addNm (nmsOf l) s.nm := by simp [nmsOf]
theorem addNm_app (ns : List Nm) (s : Nm) : ∃ r, addNm ns s = ns ++ r := by
  unfold addNm
  split
  · exact ⟨[], by simp⟩
  · exact ⟨_, rfl⟩
theorem findNm_more {s : Nm} {a q : Nat} {ns r : List Nm} (h : findNm s a ns = some q) : findNm s a (ns ++ r) = some q := by rw [findNm_app, h]; rfl
theorem addNm_end (ns : List Nm) (s : Nm) : endAt 1 (addNm ns s) ≤ endAt 1 ns + s.length + 1 := by
  unfold addNm
  split
  · omega
  · rw [endAt_snoc]
    exact Nat.le_refl _
theorem nmsOf_end : ∀ (l : List Sec), (∀ s ∈ l, okNm s.nm = true) → endAt 1 (nmsOf l) ≤ 1 + 65 * l.length := by
  intro l
  suffices h : ∀ (l : List Sec) (ns : List Nm), (∀ s ∈ l, okNm s.nm = true) → endAt 1 (l.foldl (fun ns s => addNm ns s.nm) ns) ≤ endAt 1 ns + 65 * l.length by
    intro hl
    exact h l [] hl
  intro l
  induction l with
  | nil => intro ns _; simp
  | cons s r ih =>
    intro ns hl
    have h1 := ih (addNm ns s.nm) fun x hx => hl x (List.mem_cons_of_mem _ hx)
    have h2 := addNm_end ns s.nm
    have h3 := (okNm_len (hl s (List.mem_cons_self ..))).2
    simp only [List.foldl_cons, List.length_cons]
    omega
/-- What the places are. -/
def Plc (l : List Sec) (pls : List Nat) : Prop := pls.length = l.length ∧ ∀ (k : Nat) (x : Sec), l[k]? = some x → ∃ q, pls[k]? = some q ∧ findNm x.nm 1 (nmsOf l) = some q
theorem Plc.snoc {l : List Sec} {pls : List Nat} {s : Sec} {q : Nat} (h : Plc l pls) (hq : findNm s.nm 1 (addNm (nmsOf l) s.nm) = some q) : Plc (l ++ [s]) (pls ++ [q]) := by
  obtain ⟨h1, h2⟩ := h
  refine ⟨by simp [h1], fun k x hx => ?_⟩
  rw [nmsOf_snoc]
  rcases Nat.lt_or_ge k l.length with hk | hk
  · rw [List.getElem?_append_left hk] at hx
    obtain ⟨q', e1, e2⟩ := h2 k x hx
    obtain ⟨r, hr⟩ := addNm_app (nmsOf l) s.nm
    exact ⟨q', by rw [List.getElem?_append_left (by omega)]; exact e1, by rw [hr]; exact findNm_more e2⟩
  · rw [List.getElem?_append_right hk] at hx
    have hk2 : k = l.length := by
      by_cases hlt : k - l.length < [s].length
      · simp at hlt; omega
      · rw [List.getElem?_eq_none (by omega)] at hx; cases hx
    subst hk2
    simp at hx
    subst hx
    exact ⟨q, by simp [h1], hq⟩
theorem Plc.eq {l : List Sec} {pls : List Nat} (h : Plc l pls) : pls = l.map fun x => (findNm x.nm 1 (nmsOf l)).getD 0 := by
  obtain ⟨h1, h2⟩ := h
  refine List.ext_getElem? fun k => ?_
  rcases Nat.lt_or_ge k l.length with hk | hk
  · obtain ⟨q, e1, e2⟩ := h2 k l[k] (List.getElem?_eq_getElem hk)
    rw [e1]
    simp [hk, e2]
  · rw [List.getElem?_eq_none (by omega), List.getElem?_eq_none (by simp; omega)]
theorem ofDs_ap9 (a b : List D) : ofDs (a ++ b) = ofDs a ++ ofDs b := by simp [ofDs]
def intC (l : List Nat) : List D := l.map fun (x : Nat) => .i .i64 (x : Int)
section
variable {pr : Prog} (hp : Sub strsFns pr) (hq : SubP strsPrims pr) {st : St}
include hp hq
theorem den_AddE {p m tn tp : Nat} {ns : List Nm} (h : Tbl st p m tn tp ns) {s : Nm} (hs : okNm s = true) (hb : endAt 1 ns + s.length + 1 ≤ 1099511627776) :
    ∃ st' tn' tp' q, den pr 140 [.ptr p 0, .d (.s s)] st = some (.tup [.d (.i .i64 (q : Nat)), .d (.i .i64 0)], st') ∧ Tbl st' p m tn' tp' (addNm ns s) ∧ Kp st st' (TR p m) (TT tn tp ns) ∧ findNm s 1 (addNm ns s) = some q ∧ ((ns ≠ [] ∧ tn' = tn ∧ tp' = tp) ∨ (st.tips.length ≤ tn' ∧ st.tips.length ≤ tp')) := by
  by_cases hm : s ∈ ns
  · obtain ⟨q, hf⟩ : ∃ q, findNm s 1 ns = some q := by
      cases hc : findNm s 1 ns with
      | none => exact absurd hm (findNm_none.1 hc)
      | some q => exact ⟨q, rfl⟩
    have ha : addNm ns s = ns := by simp [addNm, hm]
    rw [ha]
    exact ⟨st, tn, tp, q, den_Add_old hp hq h hs hf, h, .refl _ _ _, hf, .inl ⟨fun e => by simp [e] at hm, rfl, rfl⟩⟩
  · have ha : addNm ns s = ns ++ [s] := by simp [addNm, hm]
    rw [ha]
    obtain ⟨st', tn', tp', h1, h2, h3, h4⟩ := den_Add_new hp hq h hs hm hb
    refine ⟨st', tn', tp', _, h1, h2, h3, ?_, ?_⟩
    · rw [findNm_app, findNm_none.2 hm]
      simp [findNm]
    · rcases h4 with ⟨a, b, c⟩ | h4
      · exact .inl ⟨c, a, b⟩
      · exact .inr h4
end
def badV : V := .d (.i .i64 92)
section
variable {pr : Prog} (hp : Sub elfFns pr) (hs : Sub strsFns pr) (hq : SubP strsPrims pr)
include hp hs hq
theorem wr_names {st : St} {p m j T N : Nat} {allv : V} {all : List Sec} {tail : List V} (hT : Tbl st p m 0 0 []) (hN : all.length = N) (hN' : N ≤ 17)
    (hlt : T < st.tips.length) (hTs : st.tips[T]? = some 0) (hrow : st.row j = some (ofDs (all.map Sec.cells).flatten ++ tail)) (hjp : j ≠ p) (hjm : j ≠ m) (hia : ∀ i : Nat, i < N → iaddrV 8 allv (.d (.i .i64 (i : Int))) = some (.ptr j (i * 8))) :
    ∃ rr, cden pr (.loop [4, 5, 6, 35, 36, 37] false F177_elf_Write_b0) [(4, .ptr p 0), (5, .own 1 0 true [] T), (6, allv), (35, allv), (36, .d (.i .i64 N)), (37, .d (.i .i64 0))] st = some rr ∧
      ((∃ e s tn tp pls, rr = (.exit 0, e, s) ∧ e.get 4 = some (.ptr p 0) ∧ e.get 5 = some (.own 1 N true (intC pls) T) ∧ e.get 6 = some allv ∧ Tbl s p m tn tp (nmsOf all) ∧ s.row j = some (ofDs (all.map Sec.cells).flatten ++ tail) ∧ s.tips[T]? = some N ∧ (∀ x ∈ all, mayS x = true) ∧ Plc all pls) ∨
        ∃ e s, rr = (.ret, e, s) ∧ e.get 2 = some (.d (.sl 0 false [])) ∧ e.get 3 = some badV ∧ ¬ ∀ x ∈ all, mayS x = true) := by
  obtain ⟨J2, hJ2⟩ : ∃ J2 : Out → Prop, ∀ rr, J2 rr ↔ ((∃ e s tn tp pls, rr = (.exit 0, e, s) ∧ e.get 4 = some (.ptr p 0) ∧ e.get 5 = some (.own 1 N true (intC pls) T) ∧ e.get 6 = some allv ∧ Tbl s p m tn tp (nmsOf all) ∧ s.row j = some (ofDs (all.map Sec.cells).flatten ++ tail) ∧ s.tips[T]? = some N ∧ (∀ x ∈ all, mayS x = true) ∧ Plc all pls) ∨
        ∃ e s, rr = (.ret, e, s) ∧ e.get 2 = some (.d (.sl 0 false [])) ∧ e.get 3 = some badV ∧ ¬ ∀ x ∈ all, mayS x = true) := ⟨_, fun _ => Iff.rfl⟩
  suffices h : ∃ rr, cden pr (.loop [4, 5, 6, 35, 36, 37] false F177_elf_Write_b0) [(4, .ptr p 0), (5, .own 1 0 true [] T), (6, allv), (35, allv), (36, .d (.i .i64 N)), (37, .d (.i .i64 0))] st = some rr ∧ J2 rr by
    obtain ⟨rr, h1, h2⟩ := h
    exact ⟨rr, h1, (hJ2 rr).1 h2⟩
  obtain ⟨J, hJ⟩ : ∃ J : Nat → Env → St → Prop, ∀ n e s, J n e s ↔ ∃ i tn tp pls, n + i = N ∧ e = [(4, .ptr p 0), (5, .own 1 i true (intC pls) T), (6, allv), (35, allv), (36, .d (.i .i64 N)), (37, .d (.i .i64 (i : Nat)))] ∧ Tbl s p m tn tp (nmsOf (all.take i)) ∧ s.row j = some (ofDs (all.map Sec.cells).flatten ++ tail) ∧
      s.tips[T]? = some i ∧ (nmsOf (all.take i) ≠ [] → tn ≠ T ∧ tp ≠ T) ∧ (∀ x ∈ all.take i, mayS x = true) ∧ Plc (all.take i) pls := ⟨_, fun _ _ _ => Iff.rfl⟩
  refine loop_j J ?_ (n := N) ((hJ _ _ _).2 ⟨0, 0, 0, [], rfl, rfl, hT, hrow, hTs, fun h => absurd rfl h, fun x hx => by simp at hx, by simp [Plc]⟩)
  intro n e s hj
  obtain ⟨i, tn, tp, pls, hn, rfl, hTb, hro, hti, hto, hmy, hpl⟩ := (hJ _ _ _).1 hj
  rcases Nat.lt_or_ge i N with h | h
  · obtain ⟨x, hx⟩ : ∃ x, all[i]? = some x := ⟨_, List.getElem?_eq_getElem (by omega)⟩
    have htk : all.take (i + 1) = all.take i ++ [x] := by rw [List.take_add_one, hx]; rfl
    have h1 : IntKind.wrap .i64 ((i : Int) + 1) = i + 1 := wrap_i64 (by omega) (by omega)
    have hfl := hTb.fl
    have htf := hTb.tf
    have hji := row_lt hro
    have hld : loadV 8 true s (.ptr j (i * 8)) = some (.agg (ofDs x.cells)) := by
      have hdr : ((ofDs (all.map Sec.cells).flatten ++ tail).drop (i * 8)).take 8 = ofDs x.cells := by
        have h3 : (all.map Sec.cells).flatten = ((all.take i).map Sec.cells).flatten ++ (x.cells ++ ((all.drop (i + 1)).map Sec.cells).flatten) := by
          conv => lhs; rw [← List.take_append_drop i all]
          rw [List.drop_eq_getElem_cons (by omega), (List.getElem?_eq_some_iff.1 hx).2]
          simp
        have h4 : (ofDs ((all.take i).map Sec.cells).flatten).length = i * 8 := by
          rw [ofDs, List.length_map, secC_len, List.length_take]
          omega
        rw [h3, ofDs_ap9, ofDs_ap9, List.append_assoc, List.drop_left' h4, List.append_assoc, List.take_left' (by simp [ofDs, Sec.cells_len])]
      have hle : i * 8 + 8 ≤ (ofDs (all.map Sec.cells).flatten ++ tail).length := by
        rw [List.length_append, ofDs, List.length_map, secC_len]
        omega
      simp only [loadV, hro, if_pos hle, hdr]
      rfl
    obtain ⟨nm, ty, fl, li, inf, al, es, data, nz⟩ := x
    have hm := fun st => den_may hp hs hq (st := st) ⟨nm, ty, fl, li, inf, al, es, data, nz⟩
    obtain ⟨s1, hs1⟩ : ∃ s1, s1 = s.push (.row (ofDs (Sec.cells ⟨nm, ty, fl, li, inf, al, es, data, nz⟩))) := ⟨_, rfl⟩
    have k1 : Kp s s1 (fun _ => False) (fun _ => False) := by rw [hs1]; exact .push _
    have hr1 : s1.row s.heap.length = some (ofDs (Sec.cells ⟨nm, ty, fl, li, inf, al, es, data, nz⟩)) := by rw [hs1]; exact row_push_new rfl
    have hT1 : Tbl s1 p m tn tp (nmsOf (all.take i)) := hTb.keep k1 (fun h => h) (fun h => h) fun _ => ⟨fun h => h, fun h => h⟩
    have hsb : ∀ cs, (s.push (.row cs)).setBlk s.heap.length (.row (ofDs (Sec.cells ⟨nm, ty, fl, li, inf, al, es, data, nz⟩))) = some s1 := fun cs => by
      rw [setBlk_push rfl (by omega), hs1]
    cases hmb : mayS ⟨nm, ty, fl, li, inf, al, es, data, nz⟩ with
    | false =>
      rw [hmb] at hm
      simp only [Sec.cells, ofDs, List.map_cons, List.map_nil] at hld hm hsb hr1
      simp [F177_elf_Write_b0, hia i h, h, hld, ofDs, lay, hsb, mkV, hr1, hm]
      refine (hJ2 _).2 (.inr ⟨_, _, rfl, by simp, by simp [badV], fun hall => ?_⟩)
      rw [hall _ (List.mem_of_getElem? hx)] at hmb
      cases hmb
    | true =>
      rw [hmb] at hm
      have hok : okNm nm = true := by
        unfold mayS at hmb
        simp only [Bool.and_eq_true] at hmb
        exact hmb.1.1.1.1.1.1
      have hend := nmsOf_end (all.take i) fun y hy => by
        have := hmy y hy
        unfold mayS at this
        simp only [Bool.and_eq_true] at this
        exact this.1.1.1.1.1.1
      have hlen := okNm_len hok
      have htl : (all.take i).length ≤ 17 := by rw [List.length_take]; omega
      obtain ⟨s2, tn', tp', q, a1, a2, a3, a4, a5⟩ := den_AddE hs hq hT1 hok (by omega)
      have htT : s2.tips[T]? = some i := by
        rw [a3.tips T (by rw [hs1]; exact (List.getElem?_eq_some_iff.1 hti).1) (by
          rintro ⟨e1, e2⟩
          have := hto e1
          rcases e2 with e2 | e2
          · exact this.1 e2.symm
          · exact this.2 e2.symm), hs1]
        exact hti
      have htT2 := (List.getElem?_eq_some_iff.1 htT).1
      have hb1 : (i + 1) * 8 ≤ 140737488355328 := by omega
      have hb2 : i + 1 ≤ 140737488355328 := by omega
      have hpc : (intC pls).length = i := by
        rw [intC, List.length_map, hpl.1, List.length_take]
        omega
      have hap : appV 1 8 s2 (.own 1 i true (intC pls) T) (.d (.sl 1 true [.i .i64 (q : Int)])) = some (.own 1 (i + 1) true (intC (pls ++ [q])) T, { s2 with tips := s2.tips.set T (i + 1) }) := by
        have htf2 : s2.tfloor ≤ T := by rw [a2.tf]; omega
        simp only [appV, vw, htT]
        simp [htf2, hb1, hb2, hpc]
        simp [intC]
      simp only [Sec.cells, ofDs, List.map_cons, List.map_nil] at hld hm hsb hr1
      simp [F177_elf_Write_b0, hia i h, h, hld, ofDs, lay, hsb, mkV, hr1, hm, a1, fillV, reps, hap, h1]
      refine ⟨n - 1, by omega, (hJ _ _ _).2 ⟨i + 1, tn', tp', pls ++ [q], by omega, by simp, ?_, ?_, ?_, ?_, ?_, ?_⟩⟩
      · rw [htk, nmsOf_snoc]
        refine Tbl.keep (R := fun _ => False) (T := fun t => t = T) a2 ⟨rfl, rfl, Nat.le_refl _, by simp, fun _ _ _ => rfl, fun u hu hne => ?_⟩ (fun h => h) (fun h => h) fun hne => ?_
        · simp only [List.getElem?_set]
          rw [if_neg fun e => hne e.symm]
        · rcases a5 with ⟨b1, rfl, rfl⟩ | ⟨b1, b2⟩
          · exact hto b1
          · have hlT : T < s1.tips.length := by rw [hs1]; exact (List.getElem?_eq_some_iff.1 hti).1
            exact ⟨by omega, by omega⟩
      · have e1 : s2.row j = s.row j := by
          rw [row_of_heap (a3.heap j (by rw [hs1]; simp; omega) (by rintro (e | e); exact hjp e; exact hjm e)), hs1]
          exact row_push_old hji
        exact e1.trans hro
      · simp [htT2]
      · intro hne
        rcases a5 with ⟨b1, rfl, rfl⟩ | ⟨b1, b2⟩
        · exact hto b1
        · have hlT : T < s1.tips.length := by rw [hs1]; exact (List.getElem?_eq_some_iff.1 hti).1
          exact ⟨by omega, by omega⟩
      · intro y hy
        rw [htk, List.mem_append] at hy
        rcases hy with hy | hy
        · exact hmy y hy
        · obtain rfl : y = _ := by simpa using hy
          exact hmb
      · rw [htk]
        exact hpl.snoc a4
  · obtain rfl : i = N := by omega
    have htf : all.take i = all := List.take_of_length_le (by omega)
    rw [htf] at hTb hmy hpl
    simp [F177_elf_Write_b0]
    exact (hJ2 _).2 (.inl ⟨_, _, tn, tp, pls, rfl, by simp, by simp, by simp, hTb, hro, hti, hmy, hpl⟩)
end
end Go.Sh

/- Sections written: the places and the bytes. -/
set_option linter.unusedVariables false
set_option linter.unusedSimpArgs false
namespace Go.Sh
def sumR (l : List Sec) : Nat := (l.map fun s => r8 s.data.length).sum
def offs (l : List Sec) : Nat := 64 + sumR l
def padB (s : Sec) : List UInt8 := s.data ++ List.replicate (r8 s.data.length - s.data.length) 0
def bodyB (l : List Sec) : List UInt8 := (l.map padB).flatten
def entB (pl : Sec → Nat) (a : Nat) : List Sec → List UInt8
  | [] => []
  | s :: r => laidF (entF s (pl s) a) ++ entB pl (a + r8 s.data.length) r
theorem r8_ge (x : Nat) : x ≤ r8 x := by unfold r8; omega
theorem r8_lt (x : Nat) : r8 x < x + 8 := by unfold r8; omega
theorem r8_mod (x : Nat) : r8 x % 8 = 0 := by unfold r8; omega
theorem r8_add {a x : Nat} (h : a % 8 = 0) : r8 (a + x) = a + r8 x := by unfold r8; omega
theorem padB_len (s : Sec) : (padB s).length = r8 s.data.length := by
  have := r8_ge s.data.length
  simp [padB]
  omega
theorem sumR_snoc (l : List Sec) (s : Sec) : sumR (l ++ [s]) = sumR l + r8 s.data.length := by simp [sumR]
theorem sumR_mod (l : List Sec) : sumR l % 8 = 0 := by
  induction l with
  | nil => rfl
  | cons s r ih =>
    have := r8_mod s.data.length
    simp only [sumR, List.map_cons, List.sum_cons] at ih ⊢
    omega
theorem offs_mod (l : List Sec) : offs l % 8 = 0 := by
  have := sumR_mod l
  unfold offs
  omega
theorem bodyB_len (l : List Sec) : (bodyB l).length = sumR l := by
  induction l with
  | nil => rfl
  | cons s r ih => simp only [bodyB, sumR, List.map_cons, List.flatten_cons, List.length_append, padB_len, List.sum_cons] at ih ⊢; rw [ih]
theorem bodyB_snoc (l : List Sec) (s : Sec) : bodyB (l ++ [s]) = bodyB l ++ padB s := by simp [bodyB]
theorem entB_snoc (pl : Sec → Nat) (s : Sec) : ∀ (l : List Sec) (a : Nat), entB pl a (l ++ [s]) = entB pl a l ++ laidF (entF s (pl s) (a + sumR l))
  | [], a => by simp [entB, sumR]
  | x :: r, a => by
    simp only [List.cons_append, entB, entB_snoc pl s r, List.append_assoc, sumR, List.map_cons, List.sum_cons, Nat.add_assoc]
theorem entF_wid (s : Sec) (a b : Nat) : widF (entF s a b) = 64 := rfl
theorem hdrF_wid (a b : Nat) : widF (hdrF a b) = 64 := rfl
theorem entB_len (pl : Sec → Nat) : ∀ (l : List Sec) (a : Nat), (entB pl a l).length = 64 * l.length
  | [], a => rfl
  | x :: r, a => by
    rw [entB, List.length_append, laidF_len, entF_wid, entB_len pl r, List.length_cons]
    omega
theorem sumR_take (l : List Sec) (i : Nat) : sumR (l.take i) ≤ sumR l := by
  conv => rhs; rw [← List.take_append_drop i l]
  simp only [sumR, List.map_append, List.sum_append]
  omega
/-- What can't be laid otherwise than in 63 bits. -/
def Sin (s : Sec) : Prop := s.fl < 2 ^ 63 ∧ s.al < 2 ^ 63 ∧ s.es < 2 ^ 63
def ownT (t : Nat) (L : List UInt8) : V := .own 1 L.length true (byteCells L) t
theorem secAt {all : List Sec} {tail : List V} {i : Nat} {x : Sec} (hx : all[i]? = some x) {s : St} {j : Nat} (hro : s.row j = some (ofDs (all.map Sec.cells).flatten ++ tail)) : loadV 8 true s (.ptr j (i * 8)) = some (.agg (ofDs x.cells)) := by
  have hlt := (List.getElem?_eq_some_iff.1 hx).1
  have hdr : ((ofDs (all.map Sec.cells).flatten ++ tail).drop (i * 8)).take 8 = ofDs x.cells := by
    have h3 : (all.map Sec.cells).flatten = ((all.take i).map Sec.cells).flatten ++ (x.cells ++ ((all.drop (i + 1)).map Sec.cells).flatten) := by
      conv => lhs; rw [← List.take_append_drop i all]
      rw [List.drop_eq_getElem_cons (by omega), (List.getElem?_eq_some_iff.1 hx).2]
      simp
    have h4 : (ofDs ((all.take i).map Sec.cells).flatten).length = i * 8 := by
      rw [ofDs, List.length_map, secC_len, List.length_take]
      omega
    rw [h3, ofDs_ap9, ofDs_ap9, List.append_assoc, List.drop_left' h4, List.append_assoc, List.take_left' (by simp [ofDs, Sec.cells_len])]
  have hle : i * 8 + 8 ≤ (ofDs (all.map Sec.cells).flatten ++ tail).length := by
    rw [List.length_append, ofDs, List.length_map, secC_len]
    omega
  simp only [loadV, hro, if_pos hle, hdr]
  rfl
section
variable {pr : Prog} (hp : Sub elfFns pr)
include hp
theorem wr_places {H : List (Option Blk)} {T ts : List Nat} {fl tf j N : Nat} {allv v5 : V} {all : List Sec} {tail : List V} (hN : all.length = N) (hN' : N ≤ 17) (hsz : sumR all ≤ 1099511627776)
    (hrow : ∀ bs ts fl tf, (S H T bs ts fl tf).row j = some (ofDs (all.map Sec.cells).flatten ++ tail)) (hia : ∀ i : Nat, i < N → iaddrV 8 allv (.d (.i .i64 (i : Int))) = some (.ptr j (i * 8)))
    (h5 : ∀ s, esc1 s H.length (T.length + ts.length) v5 = some v5) (h6 : ∀ s, esc1 s H.length (T.length + ts.length) allv = some allv) :
    ∃ e, cden pr (.loop [5, 6, 13, 74, 75, 76] true F177_elf_Write_b1) [(5, v5), (6, allv), (13, .d (.i .i64 64)), (74, allv), (75, .d (.i .i64 N)), (76, .d (.i .i64 0))] (S H T [] ts fl tf) = some (.exit 2, e, S H T [] ts fl tf) ∧ e.get 5 = some v5 ∧ e.get 6 = some allv ∧ e.get 13 = some (.d (.i .i64 (offs all : Nat))) := by
  generalize hO : cden pr (.loop _ _ _) _ _ = o
  obtain ⟨r, rfl, hQ⟩ : ∃ r, o = some r ∧ ∃ e, r = (.exit 2, e, S H T [] ts fl tf) ∧ e.get 5 = some v5 ∧ e.get 6 = some allv ∧ e.get 13 = some (.d (.i .i64 (offs all : Nat))) := by
    rw [← hO]
    refine loop_n N (fun i => [(5, v5), (6, allv), (13, .d (.i .i64 (offs (all.take i) : Nat))), (74, allv), (75, .d (.i .i64 N)), (76, .d (.i .i64 i))]) (fun _ => S H T [] ts fl tf) ?_ (by simp [offs, sumR]) (by simp)
    intro i hi
    rcases Nat.lt_or_ge i N with h | h
    · obtain ⟨x, hx⟩ : ∃ x, all[i]? = some x := ⟨_, List.getElem?_eq_getElem (by omega)⟩
      have htk : all.take (i + 1) = all.take i ++ [x] := by rw [List.take_add_one, hx]; rfl
      have h1 : IntKind.wrap .i64 ((i : Int) + 1) = i + 1 := wrap_i64 (by omega) (by omega)
      have hld := fun bs ts fl tf => secAt hx (hrow bs ts fl tf)
      have hof : offs (all.take (i + 1)) = r8 (offs (all.take i) + x.data.length) := by
        rw [r8_add (offs_mod _), htk]
        simp only [offs, sumR_snoc]
        omega
      have hle := sumR_take all (i + 1)
      have hr8 := r8_ge x.data.length
      have hs2 : sumR (all.take (i + 1)) = sumR (all.take i) + r8 x.data.length := by rw [htk, sumR_snoc]
      have ho : offs (all.take i) + x.data.length ≤ 1099511627776 + 64 := by unfold offs; omega
      have h2 : IntKind.wrap .i64 ((offs (all.take i) : Int) + (x.data.length : Int)) = (offs (all.take i) : Int) + (x.data.length : Int) := wrap_i64 (by omega) (by omega)
      have hrd := fun st => den_round hp (st := st) (offs (all.take i) + x.data.length) (by omega)
      rw [← hof] at hrd
      simp only [Int.natCast_add] at hrd
      have hsb := fun c b ts => S_setBlk0 (H := H) (T := T) (bs := [c]) (ts := ts) (fl := H.length) (tf := tf) (b := b) (Nat.le_refl _)
      obtain ⟨nm, ty, fl', li, inf, al, es, data, nz⟩ := x
      simp only [Sec.cells, ofDs, List.map_cons, List.map_nil] at hld
      simp only at h2 hrd
      simp [F177_elf_Write_b1, hia i h, h, hld, ofDs, lay, hsb, mkV, h2, hrd, h1, h5, h6]
    · obtain rfl : i = N := by omega
      rw [List.take_of_length_le (by omega)]
      simp [F177_elf_Write_b1, h5, h6]
  obtain ⟨e, rfl, h0⟩ := hQ
  exact ⟨e, rfl, h0⟩
omit hp in
theorem ownT_app {H : List (Option Blk)} {T : List Nat} {bs : List Blk} {ts : List Nat} {fl tf k n : Nat} {L M : List UInt8} {x : V} (hx : ∃ nz, x = bsl nz M) (ht : ts[k]? = some n) (hn : n = L.length) (htf : tf ≤ T.length) (hb : L.length + M.length ≤ 140737488355328) :
    appV 1 1 (S H T bs ts fl tf) (ownT (T.length + k) L) x = some (ownT (T.length + k) (L ++ M), S H T bs (ts.set k (L.length + M.length)) fl tf) := by
  subst hn
  obtain ⟨nz, rfl⟩ := hx
  have ht' : (S H T bs ts fl tf).tips[T.length + k]? = some L.length := by rw [S_tip]; exact ht
  have hs := S_tset (H := H) (T := T) (bs := bs) (ts := ts) (fl := fl) (tf := tf) (k := k) (n := L.length + M.length)
  have htf2 : tf ≤ T.length + k := by omega
  simp only [appV, ownT, vw, ht', bsl]
  simp [htf2, hb, byteCells_len, byteCells_app]
omit hp in
theorem zerosB (n : Nat) : reps n [D.i .u8 0] = byteCells (List.replicate n 0) := by
  induction n with
  | zero => rfl
  | succ n ih =>
    have h1 : reps (n + 1) [D.i .u8 0] = D.i .u8 0 :: reps n [D.i .u8 0] := by simp [reps, List.replicate_succ]
    rw [h1, ih]
    simp [byteCells, List.replicate_succ]
theorem wr_entries {H : List (Option Blk)} {T : List Nat} {fl tf j N T0 : Nat} {allv : V} {all : List Sec} {pl : Sec → Nat} {tail : List V} {hd Z : List UInt8} (hZ : Z.length = 64) (hN : all.length = N) (hN' : N ≤ 17) (hsz : sumR all ≤ 1099511627776) (htf : tf ≤ T.length) (hT0 : T0 < T.length) (hhd : hd.length = 64)
    (hrow : ∀ bs ts fl tf, (S H T bs ts fl tf).row j = some (ofDs (all.map Sec.cells).flatten ++ tail)) (hia : ∀ i : Nat, i < N → iaddrV 8 allv (.d (.i .i64 (i : Int))) = some (.ptr j (i * 8)))
    (h6 : ∀ s, esc1 s H.length (T.length + 2) allv = some allv) (hmy : ∀ x ∈ all, mayS x = true) (hin : ∀ x ∈ all, Sin x) (hpl : ∀ x, pl x < 2 ^ 32) :
    ∃ e, cden pr (.loop [5, 16, 17, 94, 95, 96] true F177_elf_Write_b2) [(5, .own 1 N true (intC (all.map pl)) T0), (16, ownT (T.length + 0) hd), (17, ownT (T.length + 1) Z), (94, allv), (95, .d (.i .i64 N)), (96, .d (.i .i64 0))] (S H T [] [64, 64] fl tf) =
      some (.exit 4, e, S H T [] [(hd ++ bodyB all).length, 64 + 64 * N] fl tf) ∧ e.get 16 = some (ownT (T.length + 0) (hd ++ bodyB all)) ∧ e.get 17 = some (ownT (T.length + 1) (Z ++ entB pl 64 all)) := by
  generalize hO : cden pr (.loop _ _ _) _ _ = o
  obtain ⟨r, rfl, hQ⟩ : ∃ r, o = some r ∧ ∃ e, r = (.exit 4, e, S H T [] [(hd ++ bodyB all).length, 64 + 64 * N] fl tf) ∧ e.get 16 = some (ownT (T.length + 0) (hd ++ bodyB all)) ∧ e.get 17 = some (ownT (T.length + 1) (Z ++ entB pl 64 all)) := by
    rw [← hO]
    refine loop_n N (fun i => [(5, .own 1 N true (intC (all.map pl)) T0), (16, ownT (T.length + 0) (hd ++ bodyB (all.take i))), (17, ownT (T.length + 1) (Z ++ entB pl 64 (all.take i))), (94, allv), (95, .d (.i .i64 N)), (96, .d (.i .i64 i))]) (fun i => S H T [] [(hd ++ bodyB (all.take i)).length, 64 + 64 * i] fl tf) ?_ (by simp [bodyB, entB]) (by simp [bodyB, hhd])
    intro i hi
    rcases Nat.lt_or_ge i N with h | h
    · obtain ⟨x, hx⟩ : ∃ x, all[i]? = some x := ⟨_, List.getElem?_eq_getElem (by omega)⟩
      have hxm := List.mem_of_getElem? hx
      have htk : all.take (i + 1) = all.take i ++ [x] := by rw [List.take_add_one, hx]; rfl
      have h1 : IntKind.wrap .i64 ((i : Int) + 1) = i + 1 := wrap_i64 (by omega) (by omega)
      have hld := fun bs ts fl tf => secAt hx (hrow bs ts fl tf)
      have hle := sumR_take all (i + 1)
      have hr8 := r8_ge x.data.length
      have hs2 : sumR (all.take (i + 1)) = sumR (all.take i) + r8 x.data.length := by rw [htk, sumR_snoc]
      obtain ⟨O, hO'⟩ : ∃ O, O = hd ++ bodyB (all.take i) := ⟨_, rfl⟩
      obtain ⟨E, hE⟩ : ∃ E, E = Z ++ entB pl 64 (all.take i) := ⟨_, rfl⟩
      have hOl : O.length = 64 + sumR (all.take i) := by rw [hO', List.length_append, hhd, bodyB_len]
      have hEl : E.length = 64 + 64 * i := by rw [hE, List.length_append, hZ, entB_len, List.length_take]; omega
      have hO1 : hd ++ bodyB (all.take (i + 1)) = O ++ x.data ++ List.replicate (r8 x.data.length - x.data.length) 0 := by rw [htk, bodyB_snoc, hO']; simp [padB]
      have hE1 : Z ++ entB pl 64 (all.take (i + 1)) = E ++ laidF (entF x (pl x) O.length) := by rw [htk, entB_snoc, hE, hOl]; simp
      have hmod := sumR_mod (all.take i)
      have hrO : r8 (O.length + x.data.length) = O.length + r8 x.data.length := r8_add (by omega)
      have hpx := hpl x
      have hpc : (intC (all.map pl))[i]? = some (.i .i64 (pl x : Int)) := by simp [intC, hx]
      have hil : i < (intC (all.map pl)).length := (List.getElem?_eq_some_iff.1 hpc).1
      have hplc : (intC (all.map pl)).drop i = .i .i64 (pl x : Int) :: (intC (all.map pl)).drop (i + 1) := by rw [List.drop_eq_getElem_cons hil, (List.getElem?_eq_some_iff.1 hpc).2]
      have hia2 : iaddrV 1 (.own 1 N true (intC (all.map pl)) T0) (.d (.i .i64 (i : Int))) = some (.ep ((intC (all.map pl)).drop i)) := by simp [iaddrV, h]
      have hld2 : ∀ s, loadV 1 false s (.ep ((intC (all.map pl)).drop i)) = some (.d (.i .i64 (pl x : Int))) := fun s => by rw [hplc]; simp [loadV, mkV, ofDs]
      have hm := hmy x hxm
      have hI := hin x hxm
      obtain ⟨nm, ty, fl', li, inf, al, es, data, nz⟩ := x
      unfold mayS smallI at hm
      simp only [Bool.and_eq_true, decide_eq_true_eq] at hm
      obtain ⟨⟨⟨⟨⟨⟨m1, m2⟩, m3⟩, m4⟩, m5⟩, m6⟩, m7⟩ := hm
      obtain ⟨i1, i2, i3⟩ := hI
      simp only at m1 m2 m3 m4 m5 m6 m7 i1 i2 i3 hs2 hr8 hrO hO1
      have hen := fun st => den_entry hp (st := st) ⟨nm, ty, fl', li, inf, al, es, data, nz⟩ (pl ⟨nm, ty, fl', li, inf, al, es, data, nz⟩) O.length (by omega) (by omega) (by simp only; omega) ⟨m2.1, m5, m3.1, m4.1, m6, m7⟩ (by simp only; exact ⟨by omega, i1, by omega, by omega, i2, i3⟩)
      obtain ⟨F, hF⟩ : ∃ F, F = entF ⟨nm, ty, fl', li, inf, al, es, data, nz⟩ (pl ⟨nm, ty, fl', li, inf, al, es, data, nz⟩) O.length := ⟨_, rfl⟩
      have hF8 : ∀ f ∈ F, f.1 ≤ 8 := by
        rw [hF]
        intro f hf
        simp only [entF, List.mem_cons, List.not_mem_nil, or_false] at hf
        rcases hf with rfl | rfl | rfl | rfl | rfl | rfl | rfl | rfl | rfl | rfl <;> (simp only; omega)
      have hFw : widF F = 64 := by rw [hF]; rfl
      have hFl : F.length = 10 := by rw [hF]; rfl
      have hlay := fun st => den_laidF hp (st := st) (v := .d (.sl 10 true (F.map fldD).flatten)) (fs := F) (SlC.of_sl (fld_els F) (by simp [hFl]) rfl) hF8 (by omega) (by omega)
      have hLl : (laidF F).length = 64 := by rw [laidF_len, hFw]
      have hE2 : (E ++ laidF F).length = 64 + 64 * (i + 1) := by rw [List.length_append, hEl, hLl]; omega
      rw [← hF] at hE1 hen
      have ap1 := fun bs fl nz => ownT_app (H := H) (T := T) (bs := bs) (ts := [O.length, 64 + 64 * i]) (fl := fl) (tf := tf) (k := 1) (n := 64 + 64 * i) (L := E) (M := laidF F) ⟨_, rfl⟩ rfl hEl.symm htf (by omega) (x := bsl nz (laidF F))
      have ap2 := fun bs fl => ownT_app (H := H) (T := T) (bs := bs) (ts := [O.length, E.length + (laidF F).length]) (fl := fl) (tf := tf) (k := 0) (n := O.length) (L := O) (M := data) ⟨nz, rfl⟩ rfl rfl htf (by omega) (x := .d (.sl data.length nz (byteCells data)))
      have hrd := fun st => den_round hp (st := st) (O.length + data.length) (by omega)
      rw [hrO] at hrd
      have hsb := fun c b ts => S_setBlk0 (H := H) (T := T) (bs := [c]) (ts := ts) (fl := H.length) (tf := tf) (b := b) (Nat.le_refl _)
      have hlO : ∀ L t, lenV (ownT t L) = some L.length := fun _ _ => rfl
      have heO : ∀ L t s a b, t < b → esc1 s a b (ownT t L) = some (ownT t L) := fun L t s a b h => by simp [ownT, h]
      obtain ⟨k, hk⟩ : ∃ k, k = r8 data.length - data.length := ⟨_, rfl⟩
      rw [← hk] at hO1
      have hk8 : k ≤ 8 := by have := r8_lt data.length; omega
      have hsub : IntKind.wrap .i64 (((O.length + r8 data.length : Nat) : Int) - ((O.length + data.length : Nat) : Int)) = (k : Int) := by rw [wrap_i64 (by omega) (by omega)]; omega
      have hz : ∀ s x, appZV 1 1 [.i .u8 0] s x (.d (.i .i64 (k : Int))) = appV 1 1 s x (bsl true (List.replicate k 0)) := fun s x => by
        unfold appZV
        simp only
        rw [if_pos ⟨by omega, by omega⟩, zerosB, Int.toNat_natCast]
        simp [bsl]
      have ap3 := fun bs fl => ownT_app (H := H) (T := T) (bs := bs) (ts := [O.length + data.length, E.length + (laidF F).length]) (fl := fl) (tf := tf) (k := 0) (n := O.length + data.length) (L := O ++ data) (M := List.replicate k 0) ⟨true, rfl⟩ rfl (by simp) htf (by simp; omega) (x := bsl true (List.replicate k 0))
      simp only [Int.natCast_add] at hrd hsub
      simp only [Sec.cells, ofDs, List.map_cons, List.map_nil] at hld hen
      rw [← hO', ← hE]
      simp [F177_elf_Write_b2, hia i h, h, hld, ofDs, lay, hsb, mkV, hia2, hld2, hlO, hen, hlay, hrd, hsub, h1]
      simp only [Nat.add_zero, List.set_cons_zero, List.set_cons_succ] at ap1 ap2 ap3
      simp [ap1, ap2, ap3, hz, hsb, hld, ofDs, lay, mkV, hlO, hrd, hsub, h1, heO, h6, hT0, h]
      have hT2 : T0 < T.length + 2 := by omega
      have hOl2 : hd.length + (bodyB (all.take (i + 1))).length = O.length + data.length + k := by
        have := congrArg List.length hO1
        simp only [List.length_append, List.length_replicate] at this
        omega
      have hEl2 : E.length + (laidF F).length = 64 + 64 * (i + 1) := by omega
      rw [hOl2, hEl2, hO1, hE1]
      simp only [hT2, if_true, List.append_assoc, and_self]
    · obtain rfl : i = N := by omega
      rw [List.take_of_length_le (by omega)]
      have heO : ∀ L t s a b, t < b → esc1 s a b (ownT t L) = some (ownT t L) := fun L t s a b h => by simp [ownT, h]
      have hT2 : T0 < T.length + 2 := by omega
      simp [F177_elf_Write_b2, heO, h6, hT2]
  obtain ⟨e, rfl, h0⟩ := hQ
  exact ⟨e, rfl, h0⟩
end
end Go.Sh

/- Sections written, whole. -/
set_option linter.unusedVariables false
set_option linter.unusedSimpArgs false
namespace Go.Sh
theorem appW_K {st : St} {sz n m cap id bytes : Nat} {cells tail ys : List V} {zero : List D} {x : V} {Q : V → St → Prop} (hf : st.floor = 0) (hrow : st.row id = some (cells ++ tail)) (hl : cells.length = n * sz) (htl : tail.length + n * sz = cap * sz) (hcap : n ≤ cap)
    (hx : vwV sz st x = some (m, ys)) (hy : ys.length = m * sz) (hz : zero.length = sz) (hb : (n + m) * bytes ≤ 140737488355328) (hn : n + m ≤ 140737488355328)
    (hQ : ∀ st' id' cap' tail', st'.row id' = some (cells ++ ys ++ tail') → tail'.length + (n + m) * sz = cap' * sz → n + m ≤ cap' → Kp st st' (fun i => i = id) (fun _ => False) → (id' = id ∨ st.heap.length ≤ id') → Q (.rsl sz id' 0 (n + m) cap') st') : appW sz bytes zero st (.rsl sz id 0 n cap) x Q := by
  have hclen : (cells ++ tail).length = cap * sz := by rw [List.length_append]; omega
  have hreps : ∀ k, (ofDs (reps k zero)).length = k * sz := fun k => by rw [ofDs, List.length_map, reps_len, hz]
  refine ⟨rfl, cells ++ tail, m, ys, hrow, hx, hy, by rw [hclen]; simp, hb, hn, fun _ hm => ?_, fun hroom hm => ?_, fun hroom k => ?_⟩
  · subst hm
    have : ys = [] := List.eq_nil_of_length_eq_zero (by simpa using hy)
    subst this
    exact hQ st id cap tail (by simpa using hrow) (by simpa using htl) (by simpa using hcap) (.refl _ _ _) (.inl rfl)
  · have hms : (n + m) * sz ≤ cap * sz := Nat.mul_le_mul_right _ hroom
    rw [Nat.add_mul] at hms
    refine ⟨_, setBlk_put hf, hQ _ id cap (tail.drop (m * sz)) ?_ ?_ hroom (.put rfl) (.inl rfl)⟩
    · rw [row_put_eq (row_lt hrow), Nat.zero_add]
      unfold lay
      rw [← hl, List.take_left', List.drop_append, List.drop_of_length_le (by omega), hy, show cells.length + m * sz - cells.length = m * sz by omega]
      · simp
      · rfl
    · rw [List.length_drop, Nat.add_mul]
      omega
  · refine hQ _ st.heap.length (n + m + k) (ofDs (reps k zero)) ?_ ?_ (by omega) (.push _) (.inr (Nat.le_refl _))
    · rw [row_push_new rfl, List.drop_zero, ← hl, List.take_left' rfl]
    · rw [hreps, Nat.add_mul (n + m)]
      omega
def ownNm : Nm := [46, 115, 104, 115, 116, 114, 116, 97, 98]
/-- The names' own section. -/
def ownS (L : List UInt8) (nz : Bool) : Sec := ⟨ownNm, 3, 0, 0, 0, 1, 0, L, nz⟩
def tabOf (ss : List Sec) : List Nm := addNm (nmsOf ss) ownNm
def allOf (ss : List Sec) : List Sec := ss ++ [ownS (tabB (tabOf ss)) true]
def plOf (ss : List Sec) (x : Sec) : Nat := (findNm x.nm 1 (tabOf ss)).getD 0
def fileB (ss : List Sec) : List UInt8 := laidF (hdrF (offs (allOf ss)) (ss.length + 2)) ++ bodyB (allOf ss) ++ (List.replicate 64 0 ++ entB (plOf ss) 64 (allOf ss))
def good (ss : List Sec) : Prop := ss.length ≤ 16 ∧ ∀ x ∈ ss, mayS x = true
def WrR (ss : List Sec) (v : V) (s : St) : Prop := (good ss ∧ ∃ T, v = .tup [ownT T (fileB ss), .d (.i .i64 0)] ∧ s.tips[T]? = some (fileB ss).length) ∨ (¬ good ss ∧ v = .tup [.d (.sl 0 false []), badV])
theorem ownS_may (L : List UInt8) (nz : Bool) : mayS (ownS L nz) = true := by
  have h : okNm ownNm = true := by decide
  simp [mayS, ownS, h, smallI]
theorem last_lay (ss : List Sec) (L : List UInt8) (t : List V) : lay (ofDs ((ss ++ [ownS [] false]).map Sec.cells).flatten ++ t) (ss.length * 8 + 7) [bsl true L] = ofDs ((ss ++ [ownS L true]).map Sec.cells).flatten ++ t := by
  have h1 : (ofDs (ss.map Sec.cells).flatten).length = ss.length * 8 := by rw [ofDs, List.length_map, secC_len]
  obtain ⟨A, hA⟩ : ∃ A, A = ofDs (ss.map Sec.cells).flatten := ⟨_, rfl⟩
  have h2 : ∀ (L : List UInt8) nz, ofDs ((ss ++ [ownS L nz]).map Sec.cells).flatten = A ++ ofDs (ownS L nz).cells := fun L nz => by rw [List.map_append, List.flatten_append, ofDs_ap9, hA]; simp
  rw [h2, h2]
  rw [← hA] at h1
  unfold lay
  rw [← h1, List.append_assoc, List.append_assoc, List.take_append, List.take_of_length_le (by omega), List.drop_append, List.drop_of_length_le (by simp; omega)]
  simp only [Nat.add_sub_cancel_left, List.length_cons, List.length_nil, Nat.zero_add, show A.length + 7 + 1 - A.length = 8 by omega]
  simp [ownS, Sec.cells, ofDs, bsl]
theorem St.asS (s : St) : S s.heap s.tips [] [] s.floor s.tfloor = s := by simp [S]
section
variable {pr : Prog} (hp : Sub elfFns pr) (hs : Sub strsFns pr) (hq : SubP strsPrims pr)
include hp hs hq
theorem callW_Write0 {u : V} {ss : List Sec} (hu : SlD 8 u (ss.map Sec.cells)) (hn : ss.length ≤ 1099511627776) (hsz : sumR ss ≤ 549755813888) (hin : ∀ x ∈ ss, Sin x) : CallW pr 177 [u] st0 (WrR ss) := by
  refine .raw (hp.at 8 rfl) rfl (codeC_W (codeC_of (fw := fun _ => false) ?_))
  obtain ⟨Q, hQ⟩ : ∃ Q : Out → Prop, ∀ r, Q r ↔ RawW F177_elf_Write (WrR ss) r := ⟨_, fun _ => Iff.rfl⟩
  suffices h : wC pr (fun _ => false) F177_elf_Write.body (initE 0 [u]) (s0 [] [] 0 0) [] Q from codeC_mono h fun r hr => (hQ r).1 hr
  have hlen := hu.len
  rw [List.length_map] at hlen
  by_cases h16 : ss.length ≤ 16
  rotate_left
  · have h16' : (16 : Int) < ss.length := by omega
    simp [F177_elf_Write, hlen, h16']
    refine (hQ _).2 ⟨_, by simp [F177_elf_Write, resV]; rfl, .inr ⟨fun h => h16 h.1, rfl⟩⟩
  have h16' : ¬ (16 : Int) < ss.length := by omega
  have h1 : IntKind.wrap .i64 ((ss.length : Int) + 1) = ((ss.length + 1 : Nat) : Int) := by rw [wrap_i64 (by omega) (by omega)]; omega
  have r0 : room 8 (.d (.i .i64 (0 : Int))) = some 0 := by simp [room]
  have r1 : room 8 (.d (.i .i64 ((ss.length + 1 : Nat) : Int))) = some (ss.length + 1) := by
    simp only [room]
    rw [if_pos (by omega), Int.toNat_natCast]
  obtain ⟨s1, n1, n2, n3⟩ := den_New hs (st := s0 [] [] 0 0) rfl rfl
  simp only [s0_hlen, List.length_nil, Nat.zero_add] at n1 n2
  have e1 : ((ss.length + 1 : Nat) : Int) = ss.length + 1 := by omega
  rw [e1] at h1 r1
  obtain ⟨s2, hs2⟩ : ∃ s2, s2 = ({ s1 with tips := s1.tips ++ [0] } : St) := ⟨_, rfl⟩
  have hT2 : Tbl s2 1 0 0 0 [] := n2.keep (R := fun _ => False) (T := fun _ => False) (by rw [hs2]; exact ⟨rfl, rfl, Nat.le_refl _, by simp, fun _ _ _ => rfl, fun u hu _ => by simp only; rw [List.getElem?_append_left hu]⟩) (fun h => h) (fun h => h) fun h => absurd rfl h
  have ht2 : s2.tips[s1.tips.length]? = some 0 := by rw [hs2]; simp
  obtain ⟨s3, hs3⟩ : ∃ s3, s3 = s2.push (.row []) := ⟨_, rfl⟩
  have k3 : Kp s2 s3 (fun _ => False) (fun _ => False) := by rw [hs3]; exact .push _
  have hT3 : Tbl s3 1 0 0 0 [] := hT2.keep k3 (fun h => h) (fun h => h) fun h => absurd rfl h
  have hr3 : s3.row s2.heap.length = some [] := by rw [hs3]; exact row_push_new rfl
  have hh2 : s2.heap = s1.heap := by rw [hs2]
  simp [F177_elf_Write, hlen, h16', n1, h1, r0, r1, ← hs2, fillV, reps, partsV, ← hs3, ofDs]
  have hvw : vwV 8 s3 u = some (ss.length, ofDs (ss.map Sec.cells).flatten) := by
    obtain ⟨_, nz, rfl⟩ := hu
    simp [vwV, vw]
  refine appW_K (cells := []) (tail := []) hT3.fl hr3 rfl rfl (Nat.le_refl _) hvw (by rw [ofDs, List.length_map, secC_len]) rfl (by omega) (by omega) fun s4 j4 c4 t4 hr4 ht4 hc4 k4 hj4 => ?_
  rw [Nat.zero_add, List.nil_append] at *
  simp [fillV, reps, partsV, lay, ofDs, toDs, toD]
  have hvw5 : vwV 8 s4 (.d (.sl 1 true (ownS [] false).cells)) = some (1, ofDs (ownS [] false).cells) := by simp [vwV, vw]
  refine appW_K (cells := ofDs (ss.map Sec.cells).flatten) (tail := t4) (k4.floor.trans hT3.fl) hr4 (by rw [ofDs, List.length_map, secC_len]) ht4 hc4 hvw5 rfl rfl (by omega) (by omega) fun s5 j5 c5 t5 hr5 ht5 hc5 k5 hj5 => ?_
  obtain ⟨N, hN⟩ : ∃ N, N = ss.length + 1 := ⟨_, rfl⟩
  rw [← hN] at ht5 hc5 ⊢
  have hl5 : lenV (.rsl 8 j5 0 N c5) = some N := rfl
  have hj2 : 2 ≤ s1.heap.length := n2.plt
  have hj4' : 2 ≤ j4 := by
    rcases hj4 with rfl | hj4
    · rw [hh2]; exact hj2
    · have := k3.hlen
      rw [hh2] at this
      omega
  have hj5' : 2 ≤ j5 := by
    rcases hj5 with rfl | hj5
    · exact hj4'
    · have := k3.hlen
      have := k4.hlen
      rw [hh2] at *
      omega
  have hT5 : Tbl s5 1 0 0 0 [] := (hT3.keep k4 (by rw [hh2]; omega) (by rw [hh2]; omega) fun h => absurd rfl h).keep k5 (by omega) (by omega) fun h => absurd rfl h
  have hlt2 : s1.tips.length < s2.tips.length := by rw [hs2]; simp
  have ht3 : s3.tips[s1.tips.length]? = some 0 := (k3.tips _ hlt2 (fun h => h)).trans ht2
  have ht4' : s4.tips[s1.tips.length]? = some 0 := (k4.tips _ (List.getElem?_eq_some_iff.1 ht3).1 (fun h => h)).trans ht3
  have ht5' : s5.tips[s1.tips.length]? = some 0 := (k5.tips _ (List.getElem?_eq_some_iff.1 ht4').1 (fun h => h)).trans ht4'
  have hal : (ss ++ [ownS [] false]).length = N := by simp [hN]
  have hr5' : s5.row j5 = some (ofDs ((ss ++ [ownS [] false]).map Sec.cells).flatten ++ t5) := by
    rw [hr5, List.map_append, List.flatten_append, ofDs_ap9]
    simp
  have hia : ∀ i : Nat, i < N → iaddrV 8 (.rsl 8 j5 0 N c5) (.d (.i .i64 (i : Int))) = some (.ptr j5 (i * 8)) := fun i hi => by rw [iaddr_row hi, Nat.zero_add]
  obtain ⟨rr, w1, w2⟩ := wr_names hp hs hq (all := ss ++ [ownS [] false]) hT5 hal (by omega) (List.getElem?_eq_some_iff.1 ht5').1 ht5' hr5' (by omega) (by omega) hia
  simp [hl5]
  refine CodeW.of_ex ⟨rr, w1, ?_⟩
  rcases w2 with ⟨e, s6, tn, tp, pls, rfl, g4, g5, g6, hT6, hr6, ht6, hmy, hpl⟩ | ⟨e, s6, rfl, g2, g3, hbad⟩
  rotate_left
  · simp
    refine (hQ _).2 ⟨_, by simp [F177_elf_Write, resV, resAll, resOne, g2, g3]; rfl, .inr ⟨fun hg => hbad fun x hx => ?_, rfl⟩⟩
    rw [List.mem_append] at hx
    rcases hx with hx | hx
    · exact hg.2 x hx
    · obtain rfl : x = _ := by simpa using hx
      exact ownS_may _ _
  have hgood : good ss := ⟨h16, fun x hx => hmy x (List.mem_append.2 (.inl hx))⟩
  have hnm : nmsOf (ss ++ [ownS [] false]) = tabOf ss := nmsOf_snoc _ _
  have hend := nmsOf_end (ss ++ [ownS [] false]) fun y hy => by
    have := hmy y hy
    unfold mayS at this
    simp only [Bool.and_eq_true] at this
    exact this.1.1.1.1.1.1
  rw [hnm] at hT6 hend
  have hby := den_Bytes hs hT6 (by omega)
  have hfl6 := hT6.fl
  have htf6 := hT6.tf
  have w3 : IntKind.wrap .i64 ((N : Int) - 1) = (ss.length : Int) := by rw [wrap_i64 (by omega) (by omega)]; omega
  have hi3 := hia ss.length (by omega)
  have hle6 : ss.length * 8 + 7 + 1 ≤ (ofDs ((ss ++ [ownS [] false]).map Sec.cells).flatten ++ t5).length := by
    rw [List.length_append, ofDs, List.length_map, secC_len]
    simp
    omega
  have hll := last_lay ss (tabB (tabOf ss)) t5
  have hput : ∀ cs, s6.setBlk j5 (.row cs) = some (s6.put j5 cs) := fun cs => setBlk_put hfl6
  obtain ⟨R6, hR6⟩ : ∃ R6, R6 = ofDs ((ss ++ [ownS [] false]).map Sec.cells).flatten ++ t5 := ⟨_, rfl⟩
  rw [← hR6] at hr6 hle6 hll
  have hsv : storeV 1 s6 (.ptr j5 (ss.length * 8 + 7)) (bsl true (tabB (tabOf ss))) = some (s6.put j5 (ofDs ((allOf ss).map Sec.cells).flatten ++ t5)) := by
    simp only [storeV, hr6, bsl_ok1]
    rw [if_pos ⟨trivial, rfl, hle6⟩, hput, show (bsl true (tabB (tabOf ss))).cs = [bsl true (tabB (tabOf ss))] from rfl, hll]
    rfl
  obtain ⟨s7, hs7⟩ : ∃ s7, s7 = s6.put j5 (ofDs ((allOf ss).map Sec.cells).flatten ++ t5) := ⟨_, rfl⟩
  rw [← hs7] at hsv
  have hf7 : s7.floor = 0 := by rw [hs7]; exact hfl6
  have htf7 : s7.tfloor = 0 := by rw [hs7]; exact htf6
  have hr7 : s7.row j5 = some (ofDs ((allOf ss).map Sec.cells).flatten ++ t5) := by rw [hs7]; exact row_put_eq (row_lt hr6)
  have hj7 := row_lt hr7
  have hNa : (allOf ss).length = N := by simp [allOf, hN]
  have hend' : (tabB (tabOf ss)).length ≤ 2048 := by rw [tabB_len]; omega
  have hszA : sumR (allOf ss) ≤ 1099511627776 := by
    rw [allOf, sumR_snoc]
    have := r8_lt (ownS (tabB (tabOf ss)) true).data.length
    have e : (ownS (tabB (tabOf ss)) true).data.length = (tabB (tabOf ss)).length := rfl
    omega
  have hrow7 : ∀ bs ts fl tf, (S s7.heap s7.tips bs ts fl tf).row j5 = some (ofDs ((allOf ss).map Sec.cells).flatten ++ t5) := fun bs ts fl tf => by rw [S_row_st hj7]; exact hr7
  have hpe := hpl.eq
  rw [hnm] at hpe
  have hpe2 : pls = (allOf ss).map (plOf ss) := by rw [hpe, allOf, List.map_append, List.map_append]; rfl
  have hplL : pls.length = N := by rw [hpe2, List.length_map, hNa]
  have hT7 : s1.tips.length < s7.tips.length := by
    rw [hs7]
    exact (List.getElem?_eq_some_iff.1 ht6).1
  obtain ⟨e1', v1, v2, v3, v4⟩ := wr_places hp (H := s7.heap) (T := s7.tips) (ts := []) (fl := s7.floor) (tf := s7.tfloor) (allv := .rsl 8 j5 0 N c5) (v5 := .own 1 N true (intC pls) s1.tips.length) hNa (by omega) hszA hrow7 hia (fun s => by simp [hT7]) (fun s => by simp [hj7])
  rw [St.asS] at v1
  have hb0 : ¬ (0 : Int) = 1 := by decide
  simp [g4, hby, g5, g6, w3, hi3, hsv, hl5, bsl_ok1]
  refine CodeW.of_ex ⟨_, v1, ?_⟩
  have w4 : IntKind.wrap .i64 ((N : Int) + 1) = ((N + 1 : Nat) : Int) := by rw [wrap_i64 (by omega) (by omega)]; omega
  have hofA : offs (allOf ss) < 2 ^ 62 := by unfold offs; omega
  obtain ⟨F, hF⟩ : ∃ F, F = hdrF (offs (allOf ss)) (N + 1) := ⟨_, rfl⟩
  have hF8 : ∀ f ∈ F, f.1 ≤ 8 := by
    rw [hF]
    intro f hf
    simp only [hdrF, List.mem_cons, List.not_mem_nil, or_false] at hf
    rcases hf with rfl | rfl | rfl | rfl | rfl | rfl | rfl | rfl | rfl | rfl | rfl | rfl | rfl | rfl | rfl | rfl <;> (simp only; omega)
  have hFw : widF F = 64 := by rw [hF]; rfl
  have hFl : F.length = 16 := by rw [hF]; rfl
  have hhd := fun st => den_header hp (st := st) (offs (allOf ss)) (N + 1) hofA (by omega) (by omega)
  rw [← hF] at hhd
  have hFd : SlD 2 (.d (.sl 16 true (F.map fldD).flatten)) (F.map fldD) := ⟨fld_els F, true, by simp [hFl]⟩
  have hlo := den_laidO hp (st := s7) hFd (by omega) (by omega) hF8 (by omega) (by omega)
  have hLl : (laidF F).length = 64 := by rw [laidF_len, hFw]
  have hob : ownB s7.tips.length (laidF F) = ownT (s7.tips.length + 0) (laidF F) := by
    have : laidF F ≠ [] := fun e => by rw [e] at hLl; cases hLl
    simp [ownB, ownT, this]
  rw [hob, hFw] at hlo
  obtain ⟨s8, hs8⟩ : ∃ s8, s8 = ({ s7 with tips := s7.tips ++ [64] } : St) := ⟨_, rfl⟩
  rw [← hs8] at hlo
  have e2 : ((N + 1 : Nat) : Int) = N + 1 := by omega
  rw [e2] at w4 hhd
  have r64 : room 1 (.d (.i .i64 (64 : Int))) = some 64 := by simp [room]
  obtain ⟨Z, hZ⟩ : ∃ Z, Z = List.replicate 64 (0 : UInt8) := ⟨_, rfl⟩
  have hZl : Z.length = 64 := by rw [hZ, List.length_replicate]
  have hZc : reps 64 [D.i .u8 0] = byteCells Z := by rw [zerosB, hZ]
  have hs9 : ({ heap := s8.heap, tips := s8.tips ++ [64], floor := s8.floor, tfloor := s8.tfloor } : St) = S s7.heap s7.tips [] [64, 64] s7.floor s7.tfloor := by rw [hs8]; simp [S]
  have hown : V.own 1 64 true (byteCells Z) s8.tips.length = ownT (s7.tips.length + 1) Z := by rw [hs8]; simp [ownT, hZl]
  have hszA2 : sumR (allOf ss) ≤ 1099511627776 := hszA
  have hplb : ∀ x, plOf ss x < 2 ^ 32 := fun x => by
    unfold plOf
    cases hc : findNm x.nm 1 (tabOf ss) with
    | none => simp
    | some q =>
      obtain ⟨i, h1, h2⟩ := findNm_some hc
      have : endAt 1 ((tabOf ss).take i) ≤ endAt 1 (tabOf ss) := by
        conv => rhs; rw [← List.take_append_drop i (tabOf ss), endAt_app]
        exact Nat.le_trans (Nat.le_add_right _ _) endAt_ge
      simp only [Option.getD_some]
      omega
  have hmyA : ∀ x ∈ allOf ss, mayS x = true := fun x hx => by
    rw [allOf, List.mem_append] at hx
    rcases hx with hx | hx
    · exact hgood.2 x hx
    · obtain rfl : x = _ := by simpa using hx
      exact ownS_may _ _
  have hinA : ∀ x ∈ allOf ss, Sin x := fun x hx => by
    rw [allOf, List.mem_append] at hx
    rcases hx with hx | hx
    · exact hin x hx
    · obtain rfl : x = _ := by simpa using hx
      exact ⟨show (0 : Int) < 2 ^ 63 by decide, show (1 : Int) < 2 ^ 63 by decide, show (0 : Int) < 2 ^ 63 by decide⟩
  obtain ⟨e2', v5, v6, v7⟩ := wr_entries hp (H := s7.heap) (T := s7.tips) (fl := s7.floor) (tf := s7.tfloor) (T0 := s1.tips.length) (allv := .rsl 8 j5 0 N c5) (pl := plOf ss) (hd := laidF F) (Z := Z) hZl hNa (by omega) hszA (by omega) hT7 hLl hrow7 hia (fun s => by simp [hj7]) hmyA hinA hplb
  rw [← hpe2] at v5
  simp [v2, v3, v4, hl5, w4, hhd, hlo, r64, hZc, hs9, hown]
  refine CodeW.of_ex ⟨_, v5, ?_⟩
  obtain ⟨A, hA⟩ : ∃ A, A = laidF F ++ bodyB (allOf ss) := ⟨_, rfl⟩
  obtain ⟨B, hB⟩ : ∃ B, B = Z ++ entB (plOf ss) 64 (allOf ss) := ⟨_, rfl⟩
  have hAl : A.length = 64 + sumR (allOf ss) := by rw [hA, List.length_append, hLl, bodyB_len]
  have hBl : B.length = 64 + 64 * N := by rw [hB, List.length_append, hZl, entB_len, hNa]
  rw [← hA] at v6 ⊢
  rw [← hB] at v7
  have hap := ownT_app (H := s7.heap) (T := s7.tips) (bs := []) (ts := [A.length, 64 + 64 * N]) (fl := s7.floor) (tf := s7.tfloor) (k := 0) (n := A.length) (L := A) (M := B) (x := bsl true B) ⟨true, rfl⟩ rfl rfl (by omega) (by omega)
  have hxe : ∀ st s t, appV 1 1 st s (ownT t B) = appV 1 1 st s (bsl true B) := fun _ _ _ => rfl
  have hfile : A ++ B = fileB ss := by rw [hA, hB, hF, hZ, hN, fileB]
  have hlf : A.length + B.length = (fileB ss).length := by rw [← hfile, List.length_append]
  rw [hfile, hlf] at hap
  simp only [Nat.add_zero] at hap
  simp [v6, v7, hxe, hap]
  refine (hQ _).2 ⟨_, by simp [F177_elf_Write, resV, resAll, resOne]; rfl, .inl ⟨hgood, s7.tips.length, rfl, by rw [S_tip0]; rfl⟩⟩
end
end Go.Sh

/- Sections written: what a file is that of; Write as a call. -/
set_option linter.unusedVariables false
set_option linter.unusedSimpArgs false
set_option linter.unusedSectionVars false
namespace Go.Sh
section
variable {ss : List Sec}
theorem allOf_len : (allOf ss).length = ss.length + 1 := by simp [allOf]
theorem hdr_len (t n : Nat) : (laidF (hdrF t n)).length = 64 := by rw [laidF_len, hdrF_wid]
theorem file_len : (fileB ss).length = offs (allOf ss) + 64 * (ss.length + 2) := by
  unfold fileB
  rw [List.length_append, List.length_append, List.length_append, hdr_len, bodyB_len, List.length_replicate, entB_len, allOf_len]
  unfold offs
  omega
end
theorem offs_good {ss : List Sec} (h : good ss) : offs (allOf ss) ≤ sumR ss + 2048 := by
  have ht : endAt 1 (tabOf ss) ≤ 1 + 65 * 17 := by
    have hh := nmsOf_end (ss ++ [ownS [] false]) fun y hy => by
      rw [List.mem_append] at hy
      have hm : mayS y = true := by
        rcases hy with hy | hy
        · exact h.2 y hy
        · obtain rfl : y = _ := by simpa using hy
          exact ownS_may _ _
      unfold mayS at hm
      simp only [Bool.and_eq_true] at hm
      exact hm.1.1.1.1.1.1
    rw [nmsOf_snoc, List.length_append] at hh
    have := h.1
    simp only [List.length_cons, List.length_nil] at hh
    exact Nat.le_trans hh (by omega)
  have e : (ownS (tabB (tabOf ss)) true).data.length = endAt 1 (tabOf ss) := tabB_len
  have hr := r8_lt (ownS (tabB (tabOf ss)) true).data.length
  unfold offs
  rw [show sumR (allOf ss) = sumR ss + r8 (ownS (tabB (tabOf ss)) true).data.length from sumR_snoc _ _]
  omega
theorem cp_sumR (ss : List Sec) : sumR (ss.map Sec.cp) = sumR ss := by simp [sumR, Sec.cp, Function.comp_def]
theorem cp_sin {ss : List Sec} (h : ∀ x ∈ ss, Sin x) : ∀ x ∈ ss.map Sec.cp, Sin x := fun x hx => by
  obtain ⟨y, hy, rfl⟩ := List.mem_map.1 hx
  exact h y hy
theorem nmsOf_cp (ss : List Sec) : nmsOf (ss.map Sec.cp) = nmsOf ss := by
  unfold nmsOf
  rw [List.foldl_map]
  rfl
theorem tabOf_cp (ss : List Sec) : tabOf (ss.map Sec.cp) = tabOf ss := by
  unfold tabOf
  rw [nmsOf_cp]
theorem allOf_cp (ss : List Sec) : allOf (ss.map Sec.cp) = (allOf ss).map Sec.cp := by
  unfold allOf
  rw [tabOf_cp, List.map_append]
  rfl
theorem offs_cp (l : List Sec) : offs (l.map Sec.cp) = offs l := by
  unfold offs
  rw [cp_sumR]
theorem bodyB_cp (l : List Sec) : bodyB (l.map Sec.cp) = bodyB l := by
  unfold bodyB
  rw [List.map_map]
  rfl
theorem entB_cp {pl pl' : Sec → Nat} (h : ∀ x, pl' x.cp = pl x) : ∀ (l : List Sec) (a : Nat), entB pl' a (l.map Sec.cp) = entB pl a l
  | [], _ => rfl
  | s :: r, a => by
    have e : entF s.cp (pl' s.cp) a = entF s (pl s) a := by rw [h]; rfl
    simp only [List.map_cons, entB, e]
    rw [show s.cp.data = s.data from rfl, entB_cp h r]
theorem fileB_cp (ss : List Sec) : fileB (ss.map Sec.cp) = fileB ss := by
  have hpl : ∀ x : Sec, plOf (ss.map Sec.cp) x.cp = plOf ss x := fun x => by
    unfold plOf
    rw [tabOf_cp]
    rfl
  unfold fileB
  rw [allOf_cp, offs_cp, bodyB_cp, entB_cp hpl, List.length_map]
theorem see9 {v : V} {L : List UInt8} {st : St} (h : Byt st v L) (k : Nat) : ∃ nz, see1 st (k + 1) v = some (bsl nz L) := by
  cases v with
  | d d =>
    cases d with
    | sl n nz cs => obtain ⟨rfl, rfl⟩ := h; exact ⟨nz, rfl⟩
    | _ => exact h.elim
  | own sz n nz cs t => obtain ⟨rfl, rfl⟩ := h; exact ⟨nz, rfl⟩
  | rsl sz id off n cap =>
    obtain ⟨rfl, rfl, rfl, c, h4, h5, h6⟩ := h
    refine ⟨true, ?_⟩
    simp only [see1, seeD, h4, Nat.zero_add, Nat.mul_one, h5, if_true, List.drop_zero, h6, seeL_ofDs, Option.map_some, bsl]
  | _ => exact h.elim
def sec0 : Sec := ⟨[46, 116, 101, 120, 116], 1, 6, 0, 0, 8, 0, [1, 2, 3], true⟩
theorem sec0_may : mayS sec0 = true := by decide
theorem sec0_good : good [sec0] := ⟨by decide, fun x hx => by
  obtain rfl : x = sec0 := by simpa using hx
  exact sec0_may⟩
theorem sec0_sin : ∀ x ∈ [sec0], Sin x := fun x hx => by
  obtain rfl : x = sec0 := by simpa using hx
  exact ⟨by decide, by decide, by decide⟩
theorem sec0_offs : offs (allOf [sec0]) = 96 := by decide
theorem sec0_file : (fileB [sec0]).length = 288 := by rw [file_len, sec0_offs]; rfl
theorem sec0_at : (fileB [sec0])[66]? = some 3 ∧ (fileB [sec0])[72]? = some 0 ∧ (fileB [sec0])[73]? = some 46 := by decide
section
variable {pr : Prog} (hp : Sub elfFns pr) (hs : Sub strsFns pr) (hq : SubP strsPrims pr) {st : St}
include hp hs hq
/-- Write's answer as data. -/
theorem callW_Write {v u : V} {m : Nat} {ss : List Sec} (hc : seeA st m [v] = some [u]) (hu : SlD 8 u (ss.map Sec.cells)) (hn : ss.length ≤ 1099511627776) (hsz : sumR ss ≤ 549755813888) (hin : ∀ x ∈ ss, Sin x) :
    CallW pr 177 [v] st fun r s => s = st ∧ ((good ss ∧ r = .tup [bsl true (fileB ss), .d (.i .i64 0)]) ∨ (¬ good ss ∧ r = .tup [.d (.sl 0 false []), badV])) := by
  refine .seen hc ((callW_Write0 hp hs hq hu hn hsz hin).mono ?_)
  rintro r s (⟨hg, T, rfl, ht⟩ | ⟨hg, rfl⟩)
  · have hcl : (byteCells (fileB ss)).length = (fileB ss).length := byteCells_len _
    have hfl := bytes_flat (fileB ss)
    simp only [FreshR, FreshL, FreshV, ownT, ht, hfl, hcl, true_and, Nat.mul_one]
    exact .inl ⟨rfl, fun h => (by cases h), fun h => (by cases h), rfl, .inl ⟨hg, rfl⟩⟩
  · simp [FreshR, FreshL, FreshV, D.flat, pushO, V.flat, hg, badV]
/-- Write's answer as a row of the caller's. -/
theorem callW_WriteR {v u : V} {m : Nat} {ss : List Sec} (hc : seeA st m [v] = some [u]) (hu : SlD 8 u (ss.map Sec.cells)) (hn : ss.length ≤ 1099511627776) (hsz : sumR ss ≤ 549755813888) (hin : ∀ x ∈ ss, Sin x) :
    CallW pr 177 [v] st fun r s => (good ss ∧ ∃ k, r = .tup [.rsl 1 st.heap.length 0 (fileB ss).length ((fileB ss).length + k), .d (.i .i64 0)] ∧ s = st.push (.row (ofDs (byteCells (fileB ss)) ++ List.replicate k (.d .any)))) ∨ (¬ good ss ∧ s = st ∧ r = .tup [.d (.sl 0 false []), badV]) := by
  refine .seen hc ((callW_Write0 hp hs hq hu hn hsz hin).mono ?_)
  rintro r s (⟨hg, T, rfl, ht⟩ | ⟨hg, rfl⟩)
  · have hcl : (byteCells (fileB ss)).length = (fileB ss).length := byteCells_len _
    have hfl := bytes_flat (fileB ss)
    simp only [FreshR, FreshL, FreshV, ownT, ht, hfl, hcl, true_and, Nat.mul_one]
    refine .inr fun k => ⟨rfl, .inl ⟨hg, k, rfl, rfl⟩⟩
  · simp [FreshR, FreshL, FreshV, D.flat, pushO, V.flat, hg, badV]
end
end Go.Sh
