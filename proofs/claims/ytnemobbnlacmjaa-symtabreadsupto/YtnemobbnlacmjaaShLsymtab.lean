/- What the functions of the package symtab come to. -/
import Derived.Test.YtnemobbnlacmjaaShBe
import Derived.Test.YtnemobbnlacmjaaShFsymtab
set_option linter.unusedVariables false
set_option linter.unusedSimpArgs false
namespace Go.Sh
def symFns : List (Nat × SFn) := [(44, F44_symtab_sortOf), (45, F45_symtab_function_section), (46, F46_symtab_table_section), (47, F47_symtab_extern_section), (48, F48_symtab_function_value), (49, F49_symtab_table_value), (50, F50_symtab_extern_value),
  (51, F51_symtab_function_size), (52, F52_symtab_table_size), (53, F53_symtab_extern_size), (54, F54_symtab_order_next), (55, F55_symtab_put), (56, F56_symtab_function_info), (57, F57_symtab_table_info), (58, F58_symtab_extern_info), (59, F59_symtab_entry),
  (61, F61_symtab_function_rank), (62, F62_symtab_table_rank), (63, F63_symtab_extern_rank), (64, F64_symtab_get), (31, F31_symtab_Write), (32, F32_symtab_Read)]
/-- The sorts of symbols. -/
inductive Srt where
  | fn (g : Bool)
  | tab
  | ext
  deriving DecidableEq
def Srt.d : Srt → D
  | .fn g => .ifc 0 true [.b g]
  | .tab => .ifc 1 true []
  | .ext => .ifc 2 true []
def Srt.rank : Srt → Int
  | .fn g => if g then 3 else 1
  | .tab => 2
  | .ext => 4
def Srt.info : Srt → Int
  | .fn g => if g then 18 else 2
  | .tab => 1
  | .ext => 16
def Srt.sec : Srt → Int
  | .fn _ => 1
  | .tab => 2
  | .ext => 0
def Srt.value : Srt → Int → Bool
  | .fn _, x => decide (0 ≤ x ∧ x.tmod 8 = 0)
  | .tab, x => decide (0 ≤ x ∧ x.tmod 16 = 0)
  | .ext, x => decide (x = 0)
def Srt.size : Srt → Int → Bool
  | .fn _, x => decide (0 < x ∧ x.tmod 8 = 0)
  | .tab, x => decide (x = 16)
  | .ext, x => decide (x = 0)
def optS : Option Srt → D
  | some s => s.d
  | none => .ni
section
variable {pr : Prog} (hp : Sub symFns pr) {st : St}
include hp
theorem den45 (g : Bool) : den pr 45 [.agg [.d (.b g)]] st = some (.d (.i .i64 (Srt.fn g).sec), st) := den_shut (hp.at 1 rfl) rfl rfl (by simp; rfl) (by simp [F45_symtab_function_section, Srt.sec])
theorem den46 : den pr 46 [.agg []] st = some (.d (.i .i64 Srt.tab.sec), st) := den_shut (hp.at 2 rfl) rfl rfl (by simp; rfl) (by simp [F46_symtab_table_section, Srt.sec])
theorem den48 (g : Bool) (x : Int) : den pr 48 [.agg [.d (.b g)], .d (.i .i64 x)] st = some (.d (.b ((Srt.fn g).value x)), st) := den_shut (hp.at 4 rfl) rfl rfl (by simp; rfl) (by
  by_cases h : 0 ≤ x <;> simp [F48_symtab_function_value, Srt.value, h])
theorem den47 : den pr 47 [.agg []] st = some (.d (.i .i64 Srt.ext.sec), st) := den_shut (hp.at 3 rfl) rfl rfl (by simp; rfl) (by simp [F47_symtab_extern_section, Srt.sec])
theorem den49 (x : Int) : den pr 49 [.agg [], .d (.i .i64 x)] st = some (.d (.b (Srt.tab.value x)), st) := den_shut (hp.at 5 rfl) rfl rfl (by simp; rfl) (by
  by_cases h : 0 ≤ x <;> simp [F49_symtab_table_value, Srt.value, h])
theorem den50 (x : Int) : den pr 50 [.agg [], .d (.i .i64 x)] st = some (.d (.b (Srt.ext.value x)), st) := den_shut (hp.at 6 rfl) rfl rfl (by simp; rfl) (by simp [F50_symtab_extern_value, Srt.value])
theorem den51 (g : Bool) (x : Int) : den pr 51 [.agg [.d (.b g)], .d (.i .i64 x)] st = some (.d (.b ((Srt.fn g).size x)), st) := den_shut (hp.at 7 rfl) rfl rfl (by simp; rfl) (by
  by_cases h : 0 < x <;> simp [F51_symtab_function_size, Srt.size, h])
theorem den52 (x : Int) : den pr 52 [.agg [], .d (.i .i64 x)] st = some (.d (.b (Srt.tab.size x)), st) := den_shut (hp.at 8 rfl) rfl rfl (by simp; rfl) (by simp [F52_symtab_table_size, Srt.size])
theorem den53 (x : Int) : den pr 53 [.agg [], .d (.i .i64 x)] st = some (.d (.b (Srt.ext.size x)), st) := den_shut (hp.at 9 rfl) rfl rfl (by simp; rfl) (by simp [F53_symtab_extern_size, Srt.size])
theorem den56 (g : Bool) : den pr 56 [.agg [.d (.b g)]] st = some (.d (.i .i64 (Srt.fn g).info), st) := den_shut (hp.at 12 rfl) rfl rfl (by simp; rfl) (by cases g <;> simp [F56_symtab_function_info, Srt.info])
theorem den57 : den pr 57 [.agg []] st = some (.d (.i .i64 Srt.tab.info), st) := den_shut (hp.at 13 rfl) rfl rfl (by simp; rfl) (by simp [F57_symtab_table_info, Srt.info])
theorem den58 : den pr 58 [.agg []] st = some (.d (.i .i64 Srt.ext.info), st) := den_shut (hp.at 14 rfl) rfl rfl (by simp; rfl) (by simp [F58_symtab_extern_info, Srt.info])
theorem den61 (g : Bool) : den pr 61 [.agg [.d (.b g)]] st = some (.d (.i .i64 (Srt.fn g).rank), st) := den_shut (hp.at 16 rfl) rfl rfl (by simp; rfl) (by cases g <;> simp [F61_symtab_function_rank, Srt.rank])
theorem den62 : den pr 62 [.agg []] st = some (.d (.i .i64 Srt.tab.rank), st) := den_shut (hp.at 17 rfl) rfl rfl (by simp; rfl) (by simp [F62_symtab_table_rank, Srt.rank])
theorem den63 : den pr 63 [.agg []] st = some (.d (.i .i64 Srt.ext.rank), st) := den_shut (hp.at 18 rfl) rfl rfl (by simp; rfl) (by simp [F63_symtab_extern_rank, Srt.rank])
end
/-- The sort that a fifth byte tells. -/
def sortOf (x : Int) : Option Srt := if x = 2 then some (.fn false) else if x = 1 then some .tab else if x = 18 then some (.fn true) else if x = 16 then some .ext else none
section
variable {pr : Prog} (hp : Sub symFns pr) {st : St}
include hp
theorem den_sortOf (x : Int) : den pr 44 [.d (.i .i64 x)] st = some (.d (optS (sortOf x)), st) := by
  refine den_shut (hp.at 0 rfl) rfl rfl (by simp; rfl) ?_
  have h45 := fun g st => den56 (pr := pr) hp (st := st) g
  have h46 := fun st => den57 (pr := pr) hp (st := st)
  have h47 := fun st => den58 (pr := pr) hp (st := st)
  simp [F44_symtab_sortOf, fillV, lay, ofDs, mkIV, reps]
  have go : ∀ {b : Bool}, b = true → True := fun _ => trivial
  by_cases h1 : x = 2
  · rw [cden_loopK]
    simp [F44_symtab_sortOf_b0, iaddrV, h45, h46, h47, Srt.info, h1, sortOf, optS, Srt.d, ofDs]
  have h1' : ¬ 2 = x := fun e => h1 e.symm
  by_cases h2 : x = 1
  · iterate 2
      rw [cden_loopK]
      simp [F44_symtab_sortOf_b0, iaddrV, h45, h46, h47, Srt.info, h1, h1', h2, sortOf, optS, Srt.d, ofDs, wrap_i64]
  have h2' : ¬ 1 = x := fun e => h2 e.symm
  by_cases h3 : x = 18
  · iterate 3
      rw [cden_loopK]
      simp [F44_symtab_sortOf_b0, iaddrV, h45, h46, h47, Srt.info, h1, h1', h2, h2', h3, sortOf, optS, Srt.d, ofDs, wrap_i64]
  have h3' : ¬ 18 = x := fun e => h3 e.symm
  by_cases h4 : x = 16
  · iterate 4
      rw [cden_loopK]
      simp [F44_symtab_sortOf_b0, iaddrV, h45, h46, h47, Srt.info, h1, h1', h2, h2', h3, h3', h4, sortOf, optS, Srt.d, ofDs, wrap_i64]
  have h4' : ¬ 16 = x := fun e => h4 e.symm
  iterate 5
    rw [cden_loopK]
    simp [F44_symtab_sortOf_b0, iaddrV, h45, h46, h47, Srt.info, h1, h1', h2, h2', h3, h3', h4, h4', sortOf, optS, Srt.d, ofDs, wrap_i64]
end
/-- The i-th byte of a number. -/
def byteAt (x : Int) (i : Nat) : Int := IntKind.wrap .u8 (x.fdiv (2 ^ (8 * i)))
def le (w : Nat) (x : Int) : List D := (List.range w).map fun i => .i .u8 (byteAt x i)
theorem le_len (w : Nat) (x : Int) : (le w x).length = w := by simp [le]
theorem le_succ (w : Nat) (x : Int) : le (w + 1) x = le w x ++ [.i .u8 (byteAt x w)] := by simp [le, List.range_succ]
section
variable {pr : Prog} (hp : Sub symFns pr) {st : St}
include hp
theorem den_put {bs : List Blk} {ts : List Nat} {fl tf t n : Nat} {cells : List D} (x : Int) {w : Nat} (ht : ts[t]? = some n) (htf : tf ≤ t) (hc : cells.length = n) (hw : w ≤ 8) (hn : n ≤ 140737488355000) :
    den pr 55 [.own 1 n true cells t, .d (.i .i64 x), .d (.i .i64 w)] (s0 bs ts fl tf) = some (.own 1 (n + w) true (cells ++ le w x) t, s0 bs (ts.set t (n + w)) fl tf) := by
  obtain ⟨hlt, htn⟩ := List.getElem?_eq_some_iff.1 ht
  rw [den_fn (hp.at 11 rfl) rfl rfl, start_raw _ rfl]
  simp [F55_symtab_put]
  generalize hL : cden pr (.loop _ _ _) _ _ = o
  obtain ⟨r, rfl, hQ⟩ : ∃ r, o = some r ∧ ∃ e, r = (.exit 0, e, s0 bs (ts.set t (n + w)) fl tf) ∧ e.get 0 = some (.own 1 (n + w) true (cells ++ le w x) t) := by
    rw [← hL]
    refine loop_n w (fun i => [(0, .own 1 (n + i) true (cells ++ le i x) t), (1, .d (.i .i64 x)), (8, .d (.i .i64 w)), (9, .d (.i .i64 i))]) (fun i => s0 bs (ts.set t (n + i)) fl tf) ?_ (by simp [le]) (by simp [← htn])
    intro i hi
    rcases Nat.lt_or_ge i w with h | h
    · have h1 : IntKind.wrap .i64 ((i : Int) + 1) = i + 1 := wrap_i64 (by omega) (by omega)
      have h2 : IntKind.wrap .i64 (8 * (i : Int)) = 8 * i := wrap_i64 (by omega) (by omega)
      have h3 : (0 : Int) ≤ 8 * i := by omega
      have h4 : min (8 * (i : Int)).toNat 64 = 8 * i := by omega
      have h5 : n + (i + 1) ≤ 140737488355328 := by omega
      simp [F55_symtab_put_b0, h, h1, h2, h3, h4, h5, shI_shr, IntKind.bits, fillV, lay, reps, ofDs, appV, vw, hlt, htf, hc, le_len, le_succ, byteAt, Nat.add_assoc]
    · obtain rfl : i = w := by omega
      simp [F55_symtab_put_b0]
  obtain ⟨e, rfl, h0⟩ := hQ
  simp [h0]
end
/-- Whether symbols stand in order. -/
structure Ordr where
  last : Option Srt
  value : Int
  tables : Int
def Ordr.cells (o : Ordr) : List D := [optS o.last, .i .i64 o.value, .i .i64 o.tables]
def Ordr.ok (o : Ordr) (s : Srt) (v : Int) : Bool :=
  (match o.last with
    | none => true
    | some l => decide (l.rank ≤ s.rank)) &&
  (match s with
    | .fn _ => (match o.last with
      | none => true
      | some l => !(decide (s.rank = l.rank) && decide (v ≤ o.value)))
    | .tab => decide (v = 16 * o.tables)
    | .ext => true)
def Ordr.step (o : Ordr) (s : Srt) (v : Int) : Ordr := ⟨some s, v, if s = .tab then o.tables + 1 else o.tables⟩
section
variable {pr : Prog} (hp : Sub symFns pr) {st : St}
include hp
theorem den_next {bs : List Blk} {ts : List Nat} {fl tf k : Nat} (o : Ordr) (s : Srt) (v : Int) (hk : bs[k]? = some (.row (ofDs o.cells))) (hf : fl ≤ k) (h0 : 0 ≤ o.tables) (h1 : o.tables ≤ 281474976710656) :
    den pr 54 [.ptr k 0, .d s.d, .d (.i .i64 v)] (s0 bs ts fl tf) = some (.d (.b (o.ok s v)), s0 (bs.set k (.row (ofDs (o.step s v).cells))) ts fl tf) := by
  obtain ⟨hlt, hkk⟩ := List.getElem?_eq_some_iff.1 hk
  rw [den_fn (hp.at 10 rfl) rfl rfl, start_raw _ rfl]
  obtain ⟨last, value, tables⟩ := o
  simp only at h0 h1
  have d61 := fun g st => den61 (pr := pr) hp (st := st) g
  have d62 := fun st => den62 (pr := pr) hp (st := st)
  have d63 := fun st => den63 (pr := pr) hp (st := st)
  have w1 : IntKind.wrap .i64 (16 * tables) = 16 * tables := wrap_i64 (by omega) (by omega)
  have w2 : IntKind.wrap .i64 (tables + 1) = tables + 1 := wrap_i64 (by omega) (by omega)
  cases last with
  | none =>
    cases s with
    | fn g => simp [F54_symtab_order_next, hkk, Ordr.cells, ofDs, optS, Srt.d, eqV, assertV, zeroV, hlt, hf, lay, Ordr.ok, Ordr.step, List.set_set]
    | tab =>
      by_cases hv : v = 16 * tables <;> simp [F54_symtab_order_next, hkk, Ordr.cells, ofDs, optS, Srt.d, eqV, assertV, zeroV, hlt, hf, lay, Ordr.ok, Ordr.step, List.set_set, w1, w2, hv]
    | ext => simp [F54_symtab_order_next, hkk, Ordr.cells, ofDs, optS, Srt.d, eqV, assertV, zeroV, hlt, hf, lay, Ordr.ok, Ordr.step, List.set_set]
  | some l =>
    cases s with
    | fn g =>
      by_cases h2 : l.rank ≤ (Srt.fn g).rank <;> by_cases h3 : (Srt.fn g).rank = l.rank <;> by_cases h4 : v ≤ value <;> cases l <;>
        simp [d61, d62, d63, hkk, hlt, hf, h2, h3, h4, F54_symtab_order_next, Ordr.cells, ofDs, optS, Srt.d, eqV, assertV, zeroV, lay, Ordr.ok, Ordr.step, List.set_set]
    | tab =>
      by_cases h2 : l.rank ≤ Srt.tab.rank <;> by_cases hv : v = 16 * tables <;> cases l <;>
        simp [d61, d62, d63, hkk, hlt, hf, h2, hv, w1, w2, F54_symtab_order_next, Ordr.cells, ofDs, optS, Srt.d, eqV, assertV, zeroV, lay, Ordr.ok, Ordr.step, List.set_set]
    | ext =>
      by_cases h2 : l.rank ≤ Srt.ext.rank <;> cases l <;>
        simp [d61, d62, d63, hkk, hlt, hf, h2, F54_symtab_order_next, Ordr.cells, ofDs, optS, Srt.d, eqV, assertV, zeroV, lay, Ordr.ok, Ordr.step, List.set_set]
end
end Go.Sh
