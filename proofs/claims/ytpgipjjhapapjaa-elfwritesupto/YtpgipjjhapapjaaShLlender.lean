/- Lenders: bytes lent out of one buffer, with marks behind them (spindlelaw0). -/
import Derived.Test.YtpgipjjhapapjaaShLstrs1
import Derived.Test.YtpgipjjhapapjaaShFlaw0
set_option linter.unusedVariables false
set_option linter.unusedSimpArgs false
namespace Go.Sh
@[simp] theorem rsl_cs {s a b n k : Nat} : V.cs (.rsl s a b n k) = [.rsl s a b n k] := rfl
@[simp] theorem rsl_ok1 {s a b n k : Nat} : V.ok1 (.rsl s a b n k) = true := rfl
def lendFns : List (Nat × SFn) := [(169, F169_spindlelaw0_Lender_Lend), (170, F170_spindlelaw0_Lender_Back), (174, F174_spindlelaw0_Lender_mark)]
/-- A row that is written from its front on: i cells have been. -/
def wrow (f : Nat → V) (c : List V) (i : Nat) : List V := (List.range i).map f ++ c.drop i
theorem wrow_len {f : Nat → V} {c : List V} {i : Nat} (h : i ≤ c.length) : (wrow f c i).length = c.length := by
  unfold wrow
  simp
  omega
theorem wrow_zero {f : Nat → V} {c : List V} : wrow f c 0 = c := by simp [wrow]
theorem wrow_step {f : Nat → V} {c : List V} {i : Nat} (h : i < c.length) : lay (wrow f c i) i [f i] = wrow f c (i + 1) := by
  have hl : ((List.range i).map f).length = i := by simp
  unfold lay wrow
  rw [List.take_left' hl, List.drop_append, List.drop_of_length_le (by simp), List.nil_append]
  simp only [List.length_cons, List.length_nil, hl, List.drop_drop]
  rw [show i + (i + (0 + 1) - i) = i + 1 by omega, List.range_succ, List.map_append]
  simp
theorem wrow_get {f : Nat → V} {c : List V} {i k : Nat} (h : k < i) : (wrow f c i)[k]? = some (f k) := by
  unfold wrow
  rw [List.getElem?_append_left (by simpa using h)]
  simp [h]
theorem wrow_take {f : Nat → V} {c : List V} {i k : Nat} (h : k ≤ i) : (wrow f c i).take k = (List.range k).map f := by
  unfold wrow
  rw [List.take_append_of_le_length (by simpa using h), ← List.map_take, List.take_range, Nat.min_eq_left h]
def lmk (i : Nat) : Int := IntKind.wrap .u8 (IntKind.wrap .i64 (203 - IntKind.wrap .i64 (5 * (i : Int))))
/-- What is lent, and the marks. -/
def lcell (L : List UInt8) (k : Nat) : V := match L[k]? with
  | some b => .d (.i .u8 b.toNat)
  | none => .d (.i .u8 (lmk k))
theorem lcell_bytes (L : List UInt8) : (List.range L.length).map (lcell L) = ofDs (byteCells L) := by
  apply List.ext_getElem?
  intro i
  by_cases h : i < L.length
  · simp [lcell, ofDs, byteCells, h]
  · rw [List.getElem?_eq_none (by simpa using h), List.getElem?_eq_none (by simpa [ofDs, byteCells] using h)]
/-- What is lent now: the row. -/
structure Lent (st : St) (p r : Nat) (L : List UInt8) (c : List V) : Prop where
  fl : st.floor = 0
  row : st.row p = some [.rsl 1 r 0 c.length c.length, .d (.i .i64 L.length)]
  buf : st.row r = some (wrow (lcell L) c (2 * L.length + 70))
  len : 2 * L.length + 70 ≤ c.length
  ne : r ≠ p
section
variable {pr : Prog} (hd : Sub lendFns pr) {st : St}
include hd
theorem den_mark (x : V) (i : Nat) : den pr 174 [x, .d (.i .i64 (i : Int))] st = some (.d (.i .u8 (lmk i)), st) := by
  rw [den_fn (hd.at 2 rfl) rfl rfl]
  simp [F174_spindlelaw0_Lender_mark, start, lmk]
end
end Go.Sh
