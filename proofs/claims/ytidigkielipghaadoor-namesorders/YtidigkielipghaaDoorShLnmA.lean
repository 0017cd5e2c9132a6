/- What the parts of object.Check come to. -/
import Derived.Test.YtidigkielipghaaDoorShLnm
import Derived.Test.YtidigkielipghaaDoorShLcode
import Derived.Test.YtidigkielipghaaDoorShFobject
set_option linter.unusedVariables false
set_option linter.unusedSimpArgs false
set_option linter.unusedSectionVars false
namespace Go.Sh
def FnS.cells (x : FnS) : List D := [.s x.nm, .b x.gl, .i .i64 x.fi, .i .i64 x.co]
def TbS.cells (x : TbS) : List D := [.s x.nm, .i .i64 x.kind, .i .i64 x.key, .i .i64 x.val, .i .i64 x.ent]
def RlS.cells (x : RlS) : List D := [.i .i64 x.at', .i .i64 x.kind, .i .i64 x.name]
def txC (s : Byt8) : List D := [.s s]
theorem FnS.c4 (x : FnS) : x.cells.length = 4 := rfl
theorem TbS.c5 (x : TbS) : x.cells.length = 5 := rfl
theorem RlS.c3 (x : RlS) : x.cells.length = 3 := rfl
theorem txC1 (x : Byt8) : (txC x).length = 1 := rfl
def ObS.cells (o : ObS) : List D := [.sl o.tx.length o.n1 (o.tx.map Ins.cells).flatten, .sl o.fn.length o.n2 (o.fn.map FnS.cells).flatten, .sl o.tb.length o.n3 (o.tb.map TbS.cells).flatten, .sl o.ex.length o.n4 (o.ex.map txC).flatten, .sl o.rl.length o.n5 (o.rl.map RlS.cells).flatten]
theorem ObS.c5 (x : ObS) : x.cells.length = 5 := rfl
def ObS.vs (o : ObS) : List V := [dsl Ins.cells o.n1 o.tx, dsl FnS.cells o.n2 o.fn, dsl TbS.cells o.n3 o.tb, dsl txC o.n4 o.ex, dsl RlS.cells o.n5 o.rl]
theorem ObS.of (o : ObS) : ofDs o.cells = o.vs := rfl
@[simp] theorem dsl_closeC {α : Type} (c : α → List D) (nz : Bool) (l : List α) : closeC (dsl c nz l) = some (dsl c nz l) := rfl
@[simp] theorem dsl_escC {α : Type} (c : α → List D) (nz : Bool) (l : List α) (st : St) (a b : Nat) : escC st a b (dsl c nz l) = some (dsl c nz l) := rfl
theorem ObS.close (o : ObS) : closeCs o.vs = some o.vs := by simp [ObS.vs]
/-- Lists that memory can bear. -/
structure ObS.ok (o : ObS) : Prop where
  tx : o.tx.length * 40 ≤ 140737488355328
  fn : o.fn.length * 40 ≤ 140737488355328
  tb : o.tb.length * 48 ≤ 140737488355328
  ex : o.ex.length * 16 ≤ 140737488355328
  rl : o.rl.length * 24 ≤ 140737488355328
def objFns : List (Nat × SFn) := [(330, F330_object_Check), (337, F337_object_many), (338, F338_object_names), (339, F339_object_named), (340, F340_object_cut), (341, F341_object_table), (342, F342_object_insn), (343, F343_object_relocs), (348, F348_object_site)]
def slFns : List (Nat × SFn) := [(0, F0_code_Slots)]
section
variable {pr : Prog} (hp : Sub slFns pr) {st : St}
include hp
theorem den_slots0 {v : V} {is : List Ins} (hv : SlC 5 v (is.map Ins.cells)) (hl : is.length ≤ 4611686018427387903) : den pr 0 [v] st = some (.d (.i .i64 (slotsOf is)), st) := by
  obtain ⟨u, hc, hu⟩ := hv.close
  refine den_shut (hp.at 0 rfl) rfl rfl (by simp [hc]; rfl) ?_
  have hlen := hu.len
  rw [List.length_map] at hlen
  simp [F0_code_Slots, hlen]
  generalize hL : cden pr (.loop _ _ _) _ _ = o
  obtain ⟨r, rfl, hQ⟩ : ∃ r, o = some r ∧ ∃ e, r = (.exit 0, e, s0 [] [] 0 0) ∧ e.get 3 = some (.d (.i .i64 (slotsOf is))) := by
    rw [← hL]
    refine loop_n is.length (fun i => [(3, .d (.i .i64 ((is.length : Int) + slotsOf (is.take i) - i))), (8, u), (9, .d (.i .i64 is.length)), (10, .d (.i .i64 i))]) (fun _ => s0 [] [] 0 0) ?_ (by simp [slotsOf]) (by simp)
    intro i hi
    rcases Nat.lt_or_ge i is.length with h | h
    · obtain ⟨x, hx⟩ : ∃ x, is[i]? = some x := ⟨_, List.getElem?_eq_getElem h⟩
      have hs := slotsOf_le (is.take i)
      rw [List.length_take] at hs
      have h1 : IntKind.wrap .i64 ((i : Int) + 1) = i + 1 := wrap_i64 (by omega) (by omega)
      have h2 : IntKind.wrap .i64 ((is.length : Int) + slotsOf (is.take i) - i + 1) = is.length + slotsOf (is.take i) - i + 1 := wrap_i64 (by omega) (by omega)
      have hia := hu.iaddr (i := (i : Int)) (k := .i64) (by omega) (by simp; omega)
      have hld := fun st => hu.load (st := st) (i := i) (o := 0) (n := 5) (agg := true) (el := x.cells) (by simp [hx]) (by omega) (by omega)
      have hes := fun st a b => hu.esc st a b
      by_cases hop : x.op = 24
      · simp [F0_code_Slots_b0, h, hia, hld, ins_take, Ins.cells, ofDs, lay, hop, h1, h2, take_succ' hx, slotsOf_app, slotsOf, hes]
        omega
      · simp [F0_code_Slots_b0, h, hia, hld, ins_take, Ins.cells, ofDs, lay, hop, h1, h2, take_succ' hx, slotsOf_app, slotsOf, hes]
        omega
    · obtain rfl : i = is.length := by omega
      simp [F0_code_Slots_b0]
      omega
  obtain ⟨e, rfl, h3⟩ := hQ
  simp [h3]
end
def siteI (x : Ins) : Int := if x.op = 133 ∧ x.src = 1 then 2 else if x.op = 24 ∧ x.src = 1 then 1 else 0
section
variable {pr : Prog} (hp : Sub objFns pr) {st : St}
include hp
theorem den_site (x : Ins) : den pr 348 [.agg (ofDs x.cells)] st = some (.d (.i .i64 (siteI x)), st) := by
  refine den_shut (hp.at 8 rfl) rfl rfl (by simp; rfl) ?_
  obtain ⟨op, dst, src, off, imm⟩ := x
  by_cases h1 : op = 133
  · by_cases h3 : src = 1 <;> simp [F348_object_site, Ins.cells, ofDs, h1, h3, siteI]
  · by_cases h2 : op = 24
    · by_cases h3 : src = 1 <;> simp [F348_object_site, Ins.cells, ofDs, h1, h2, h3, siteI]
    · simp [F348_object_site, Ins.cells, ofDs, h1, h2, siteI]
theorem fin_tab (t : TbS) : ∃ b, finish F341_object_table st0 (cden pr F341_object_table.body (initE 0 [.agg (ofDs t.cells)]) (start F341_object_table st0)) = some (.d (.b b), st0) := by
  obtain ⟨nm, kind, key, val, ent⟩ := t
  obtain ⟨an, han⟩ : ∃ an : Int → Int → Int, ∀ a b, bitI .andNot .i64 a b = some (.i .i64 (an a b)) := ⟨_, fun _ _ => rfl⟩
  by_cases h1 : kind = 2
  · by_cases h2 : 1 ≤ key
    · by_cases h3 : key ≤ 64
      · by_cases h4 : val < 1
        · simp [F341_object_table, TbS.cells, ofDs, han, h1, h2, h3, h4]
        · by_cases h5 : 4096 < val
          · simp [F341_object_table, TbS.cells, ofDs, han, h1, h2, h3, h4, h5]
          · by_cases h6 : ent < 1
            · simp [F341_object_table, TbS.cells, ofDs, han, h1, h2, h3, h4, h5, h6]
            · by_cases h7 : 65536 < ent
              · simp [F341_object_table, TbS.cells, ofDs, han, h1, h2, h3, h4, h5, h6, h7]
              · simp [F341_object_table, TbS.cells, ofDs, han, h1, h2, h3, h4, h5, h6, h7]
      · simp [F341_object_table, TbS.cells, ofDs, han, h1, h2, h3]
    · simp [F341_object_table, TbS.cells, ofDs, han, h1, h2]
  · by_cases h2 : kind = 1
    · by_cases h3 : key = 4
      · by_cases h4 : val < 1
        · simp [F341_object_table, TbS.cells, ofDs, han, h1, h2, h3, h4]
        · by_cases h5 : 4096 < val
          · simp [F341_object_table, TbS.cells, ofDs, han, h1, h2, h3, h4, h5]
          · by_cases h6 : ent < 1
            · simp [F341_object_table, TbS.cells, ofDs, han, h1, h2, h3, h4, h5, h6]
            · by_cases h7 : 65536 < ent
              · simp [F341_object_table, TbS.cells, ofDs, han, h1, h2, h3, h4, h5, h6, h7]
              · simp [F341_object_table, TbS.cells, ofDs, han, h1, h2, h3, h4, h5, h6, h7]
      · simp [F341_object_table, TbS.cells, ofDs, han, h1, h2, h3]
    · simp [F341_object_table, TbS.cells, ofDs, han, h1, h2]
theorem den_tab (t : TbS) : ∃ b, ∀ st, den pr 341 [.agg (ofDs t.cells)] st = some (.d (.b b), st) := by
  obtain ⟨b, hb⟩ := fin_tab hp t
  exact ⟨b, fun st => den_shut (hp.at 5 rfl) rfl rfl (by simp) hb⟩
theorem den_insn (hI : IsaOk pr) (x : Ins) : ∃ b, ∀ st, den pr 342 [.agg (ofDs x.cells)] st = some (.d (.b b), st) := by
  obtain ⟨b, hb⟩ : ∃ b, finish F342_object_insn st0 (cden pr F342_object_insn.body (initE 0 [.agg (ofDs x.cells)]) (start F342_object_insn st0)) = some (.d (.b b), st0) := by
    have hm := fun st => den_may hI (st := st) x
    have hs := fun st => den_site hp (st := st) x
    obtain ⟨m, hmm⟩ : ∃ m, m = mayV x := ⟨_, rfl⟩
    obtain ⟨k, hkk⟩ : ∃ k, k = siteI x := ⟨_, rfl⟩
    rw [← hmm] at hm
    rw [← hkk] at hs
    obtain ⟨op, dst, src, off, imm⟩ := x
    simp only [Ins.cells, ofDs, List.map_cons, List.map_nil] at hm hs ⊢
    by_cases h1 : m = 0
    · by_cases h2 : k = 2
      · simp [F342_object_insn, hm, hs, h1, h2]
      · by_cases h3 : k = 1
        · simp [F342_object_insn, hm, hs, h1, h2, h3]
        · simp [F342_object_insn, hm, hs, h1, h2, h3]
    · simp [F342_object_insn, hm, hs, h1]
  exact ⟨b, fun st => den_shut (hp.at 6 rfl) rfl rfl (by simp) hb⟩
end
section
variable {pr : Prog} (hp : Sub objFns pr) {st : St}
include hp
/-- How much is too much: the first of four. -/
theorem den_many (hq : Sub slFns pr) (o : ObS) (ho : o.ok) : ∃ k : Int, (∀ st, den pr 337 [.agg o.vs] st = some (.d (.i .i64 k), st)) ∧ (k < 0 → slotsOf o.tx ≤ 65536 ∧ o.fn.length ≤ 1024 ∧ o.tb.length ≤ 1024 ∧ o.ex.length ≤ 1024) := by
  have hsl := fun st => den_slots0 hq (st := st) (dsl_c insC o.n1 o.tx) (by have := ho.tx; omega)
  by_cases h1 : 65536 < slotsOf o.tx
  · refine ⟨0, fun st => den_shut (hp.at 1 rfl) rfl rfl (by simp [o.close]; rfl) ?_, fun h => by omega⟩
    have h1' : (65536 : Int) < slotsOf o.tx := by omega
    simp [F337_object_many, ObS.vs, hsl, h1, h1']
  · have h1' : ¬ (65536 : Int) < slotsOf o.tx := by omega
    by_cases h2 : 1024 < o.fn.length
    · refine ⟨1, fun st => den_shut (hp.at 1 rfl) rfl rfl (by simp [o.close]; rfl) ?_, fun h => by omega⟩
      have h2' : (1024 : Int) < o.fn.length := by omega
      simp [F337_object_many, ObS.vs, hsl, h1, h1', h2, h2']
    · have h2' : ¬ (1024 : Int) < o.fn.length := by omega
      by_cases h3 : 1024 < o.tb.length
      · refine ⟨2, fun st => den_shut (hp.at 1 rfl) rfl rfl (by simp [o.close]; rfl) ?_, fun h => by omega⟩
        have h3' : (1024 : Int) < o.tb.length := by omega
        simp [F337_object_many, ObS.vs, hsl, h1, h1', h2, h2', h3, h3']
      · have h3' : ¬ (1024 : Int) < o.tb.length := by omega
        by_cases h4 : 1024 < o.ex.length
        · refine ⟨3, fun st => den_shut (hp.at 1 rfl) rfl rfl (by simp [o.close]; rfl) ?_, fun h => by omega⟩
          have h4' : (1024 : Int) < o.ex.length := by omega
          simp [F337_object_many, ObS.vs, hsl, h1, h1', h2, h2', h3, h3', h4, h4']
        · refine ⟨-1, fun st => den_shut (hp.at 1 rfl) rfl rfl (by simp [o.close]; rfl) ?_, fun _ => by omega⟩
          have h4' : ¬ (1024 : Int) < o.ex.length := by omega
          simp [F337_object_many, ObS.vs, hsl, h1, h1', h2, h2', h3, h3', h4, h4']
end
section
variable {pr : Prog} (hp : Sub objFns pr) {st : St}
include hp
set_option maxHeartbeats 4000000 in
theorem den_named (s : Byt8) (hs : s.length ≤ 9223372036854775807) : ∃ b, ∀ st, den pr 339 [.d (.s s)] st = some (.d (.b b), st) := by
  obtain ⟨b, hb⟩ : ∃ b, finish F339_object_named st0 (cden pr F339_object_named.body (initE 0 [.d (.s s)]) (start F339_object_named st0)) = some (.d (.b b), st0) := by
    by_cases h0 : s = []
    · subst h0
      simp [F339_object_named]
    · have h0' : (s == []) = false := by simpa using h0
      by_cases h1 : 64 < s.length
      · have h1' : (64 : Int) < s.length := by omega
        simp [F339_object_named, h0, h0', h1, h1']
      · have h1' : ¬ (64 : Int) < s.length := by omega
        simp [F339_object_named, h0, h0', h1, h1']
        generalize hL : cden pr (.loop _ _ _) _ _ = o
        obtain ⟨r, rfl, hQ⟩ : ∃ r, o = some r ∧ ((∃ e, r = (.exit 0, e, s0 [] [] 0 0)) ∨ (∃ e, r = (.ret, e, s0 [] [] 0 0) ∧ e.get 2 = some (.d (.b false)))) := by
          rw [← hL]
          clear hL
          refine loop_n s.length (fun i => [(0, .d (.s s)), (14, .d (.i .i64 s.length)), (15, .d (.i .i64 i))]) (fun _ => s0 [] [] 0 0) ?_ (by simp) (by simp)
          intro i hi
          rcases Nat.lt_or_ge i s.length with h | h
          · obtain ⟨c, hc⟩ : ∃ c, s[i]? = some c := ⟨_, List.getElem?_eq_getElem h⟩
            have hn1 : IntKind.wrap .i64 ((i : Int) + 1) = i + 1 := wrap_i64 (by omega) (by omega)
            have hix : idxSV (.d (.s s)) (.d (.i .i64 (i : Int))) = some (.d (.i .u8 c.toNat)) := by
              simp [idxSV, intV, hc]
            obtain ⟨y, hy⟩ : ∃ y : Int, y = ((c.toNat : Nat) : Int) := ⟨_, rfl⟩
            rw [← hy] at hix
            clear hy
            by_cases c1 : y = 95
            · simp [F339_object_named_b0, h, hn1, hix, c1]
            · by_cases c2 : 97 ≤ y ∧ y ≤ 122
              · obtain ⟨c2, c3⟩ := c2
                simp [F339_object_named_b0, h, hn1, hix, c1, c2, c3]
              · by_cases c4 : 65 ≤ y ∧ y ≤ 90
                · obtain ⟨c4, c5⟩ := c4
                  have c6 : ¬ 97 ≤ y := by omega
                  simp [F339_object_named_b0, h, hn1, hix, c1, c4, c5, c6]
                · have c7 : (¬ 97 ≤ y) ∨ (97 ≤ y ∧ ¬ y ≤ 122) := by omega
                  have c8 : (¬ 65 ≤ y) ∨ (65 ≤ y ∧ ¬ y ≤ 90) := by omega
                  by_cases z0 : i = 0
                  · subst z0
                    have hw1 : IntKind.wrap .i64 1 = 1 := by decide
                    have hix0 : idxSV (.d (.s s)) (.d (.i .i64 0)) = some (.d (.i .u8 y)) := by simpa using hix
                    rcases c7 with c7 | ⟨c7, c7'⟩ <;> rcases c8 with c8 | ⟨c8, c8'⟩ <;> simp [F339_object_named_b0, h, hw1, hix0, *]
                  · have z0' : ¬ (i : Int) = 0 := by omega
                    by_cases d1 : 48 ≤ y
                    · by_cases d2 : y ≤ 57
                      · rcases c7 with c7 | ⟨c7, c7'⟩ <;> rcases c8 with c8 | ⟨c8, c8'⟩ <;> simp [F339_object_named_b0, h, hn1, hix, z0, z0', c1, c7, c8, d1, d2, *]
                      · rcases c7 with c7 | ⟨c7, c7'⟩ <;> rcases c8 with c8 | ⟨c8, c8'⟩ <;> by_cases d3 : y = 46 <;> by_cases d4 : y = 36 <;> simp [F339_object_named_b0, h, hn1, hix, z0, z0', c1, c7, c8, d1, d2, d3, d4, *]
                    · rcases c7 with c7 | ⟨c7, c7'⟩ <;> rcases c8 with c8 | ⟨c8, c8'⟩ <;> by_cases d3 : y = 46 <;> by_cases d4 : y = 36 <;> simp [F339_object_named_b0, h, hn1, hix, z0, z0', c1, c7, c8, d1, d3, d4, *]
          · obtain rfl : i = s.length := by omega
            simp [F339_object_named_b0]
        rcases hQ with ⟨e, rfl⟩ | ⟨e, rfl, h2⟩
        · simp
        · simp [h2]
  exact ⟨b, fun st => den_shut (hp.at 3 rfl) rfl rfl (by simp) hb⟩
end
end Go.Sh
