/- NamesBind on shadow runs, given what holds of the answer. -/
import Derived.Test.YtidigkielipghaaDoorShLnmM
set_option linter.unusedVariables false
set_option linter.unusedSimpArgs false
set_option linter.unusedSectionVars false
namespace Go.Sh
def glob1 (l : List FnS) : Nat := (l.filter fun f => f.gl).length
def globs1 (os : List ObS) : Nat := (os.map fun o => glob1 o.fn).sum
/-- What must hold of names that are told. -/
structure BindOk (os : List ObS) (F : List Bnd) (Tb : List TbS) : Prop where
  bnd : ∀ o ∈ os, ∀ n ∈ o.ex, ∃ b ∈ F, b.nm = n
  shp : ∀ o ∈ os, ∀ t ∈ o.tb, t ∈ Tb
  ris : ∀ (i : Nat) b c, F[i]? = some b → F[i + 1]? = some c → strLess b.nm c.nm = true
  rng : ∀ b ∈ F, ∃ (k j : Nat) (o : ObS) (f : FnS), b.ob = k ∧ b.fn = j ∧ os[k]? = some o ∧ o.fn[j]? = some f ∧ f.nm = b.nm ∧ f.gl = true
  cnt : globs1 os = F.length
  few : F.length < 1099511627776
  few2 : Tb.length ≤ 1099511627776
section
variable {pr : Prog} (hq : Sub nbFns pr) {st : St}
include hq
theorem den_bound {F : List Bnd} {w : V} {n : Byt8} {nz : Bool} (hl : F.length ≤ 1099511627776) (hc : closeC w = some w) (h : ∃ b ∈ F, b.nm = n) : den pr 323 [.agg [dsl Bnd.cells nz F, w], .d (.s n)] st = some (.d (.b true), st) := by
  refine den_shut (hq.at 10 rfl) rfl rfl (by simp [hc]; rfl) ?_
  have hu := dsl_d Bnd.c3 nz F
  have hlen := hu.len
  rw [List.length_map] at hlen
  obtain ⟨u, huv⟩ : ∃ u, u = dsl Bnd.cells nz F := ⟨_, rfl⟩
  rw [← huv] at hu hlen ⊢
  clear huv
  simp [F323_spindlelaw15_bound]
  generalize hL : cden pr (.loop _ _ _) _ _ = q
  obtain ⟨r, rfl, e, s, rfl, h4⟩ : ∃ r, q = some r ∧ ∃ e s, r = (.ret, e, s) ∧ e.get 4 = some (.d (.b true)) := by
    rw [← hL]
    clear hL
    obtain ⟨J, hJ⟩ : ∃ J : Nat → Env → St → Prop, ∀ m e t, J m e t ↔ ∃ i, m = F.length - i ∧ i ≤ F.length ∧ e = [(1, .d (.s n)), (2, .ptr 0 0), (5, .d (.i .i64 (i : Nat)))] ∧ t = s0 [.row [u, w]] [] 0 0 ∧ ∀ b ∈ F.take i, b.nm ≠ n := ⟨_, fun _ _ _ => Iff.rfl⟩
    refine loop_j J ?_ (n := F.length) ((hJ _ _ _).2 ⟨0, by omega, by omega, by simp, by simp, fun b hb => by simp at hb⟩)
    intro m e t hh
    obtain ⟨i, rfl, hi, rfl, rfl, hno⟩ := (hJ _ _ _).1 hh
    rcases Nat.lt_or_ge i F.length with hlt | hge
    · obtain ⟨x, hx⟩ : ∃ x, F[i]? = some x := ⟨_, List.getElem?_eq_getElem hlt⟩
      have hn1 : IntKind.wrap .i64 ((i : Int) + 1) = i + 1 := wrap_i64 (by omega) (by omega)
      have hia := hu.iaddr (i := (i : Int)) (k := .i64) (by omega) (by simp; omega)
      simp only [Int.toNat_natCast] at hia
      have hfa := hu.faddr (i := i) (o := 0) (off := 0)
      have hld : ∀ st, loadV 1 false st (elP 3 u i 0) = some (.d (.s x.nm)) := fun st => by
        rw [hu.load (el := x.cells) (by simp [hx]) (by omega) (by omega)]
        rfl
      by_cases hxn : x.nm = n
      · simp [F323_spindlelaw15_bound_b0, hlen, hlt, hia, hfa, hld, hxn]
        try exact ⟨_, _, ⟨rfl, rfl⟩, rfl⟩
      · have hxn' : (x.nm == n) = false := by simpa using hxn
        simp [F323_spindlelaw15_bound_b0, hlen, hlt, hia, hfa, hld, hxn, hxn', hn1]
        refine ⟨_, Nat.lt_of_lt_of_le ?_ (Nat.le_refl _), (hJ _ _ _).2 ⟨i + 1, rfl, hlt, by simp, rfl, fun b hb => ?_⟩⟩
        · omega
        · rw [List.take_add_one, hx, List.mem_append] at hb
          rcases hb with hb | hb
          · exact hno b hb
          · simp at hb
            rw [hb]
            exact hxn
    · exfalso
      obtain rfl : i = F.length := by omega
      rw [List.take_of_length_le (Nat.le_refl _)] at hno
      obtain ⟨b, hb, he⟩ := h
      exact hno b hb he
  simp [h4]
theorem den_shaped {Tb : List TbS} {w : V} {t0 : TbS} {nz : Bool} (hl : Tb.length ≤ 1099511627776) (hc : closeC w = some w) (h : t0 ∈ Tb) : den pr 324 [.agg [w, dsl TbS.cells nz Tb], .agg (ofDs t0.cells)] st = some (.d (.b true), st) := by
  refine den_shut (hq.at 11 rfl) rfl rfl (by simp [hc]; rfl) ?_
  have hu := dsl_d TbS.c5 nz Tb
  have hlen := hu.len
  rw [List.length_map] at hlen
  obtain ⟨u, huv⟩ : ∃ u, u = dsl TbS.cells nz Tb := ⟨_, rfl⟩
  rw [← huv] at hu hlen ⊢
  clear huv
  have heq := fun x => eqV_tab x t0
  obtain ⟨q0, q1, q2, q3, q4, hqq⟩ : ∃ q0 q1 q2 q3 q4, ofDs t0.cells = [q0, q1, q2, q3, q4] := ⟨_, _, _, _, _, rfl⟩
  rw [hqq] at heq ⊢
  clear hqq
  simp [F324_spindlelaw15_shaped]
  generalize hL : cden pr (.loop _ _ _) _ _ = q
  obtain ⟨r, rfl, e, s, rfl, h4⟩ : ∃ r, q = some r ∧ ∃ e s, r = (.ret, e, s) ∧ e.get 4 = some (.d (.b true)) := by
    rw [← hL]
    clear hL
    obtain ⟨J, hJ⟩ : ∃ J : Nat → Env → St → Prop, ∀ m e t, J m e t ↔ ∃ i, m = Tb.length - i ∧ i ≤ Tb.length ∧ e = [(2, .ptr 0 0), (3, .ptr 1 0), (5, .d (.i .i64 (i : Nat)))] ∧ t = s0 [.row [w, u], .row [q0, q1, q2, q3, q4]] [] 0 0 ∧ ∀ b ∈ Tb.take i, b ≠ t0 := ⟨_, fun _ _ _ => Iff.rfl⟩
    refine loop_j J ?_ (n := Tb.length) ((hJ _ _ _).2 ⟨0, by omega, by omega, by simp, by simp, fun b hb => by simp at hb⟩)
    intro m e t hh
    obtain ⟨i, rfl, hi, rfl, rfl, hno⟩ := (hJ _ _ _).1 hh
    rcases Nat.lt_or_ge i Tb.length with hlt | hge
    · obtain ⟨x, hx⟩ : ∃ x, Tb[i]? = some x := ⟨_, List.getElem?_eq_getElem hlt⟩
      have hn1 : IntKind.wrap .i64 ((i : Int) + 1) = i + 1 := wrap_i64 (by omega) (by omega)
      have hia := hu.iaddr (i := (i : Int)) (k := .i64) (by omega) (by simp; omega)
      simp only [Int.toNat_natCast] at hia
      have hld : ∀ st, loadV 5 true st (elP 5 u i 0) = some (.agg (ofDs x.cells)) := fun st => by
        rw [hu.load (el := x.cells) (by simp [hx]) (by omega) (by omega)]
        rfl
      have hex := heq x
      generalize ofDs x.cells = xc at hld hex
      by_cases hxn : x = t0
      · simp [hxn] at hex
        simp [F324_spindlelaw15_shaped_b0, hlen, hlt, hia, hld, hex]
        try exact ⟨_, _, ⟨rfl, rfl⟩, rfl⟩
      · simp [hxn] at hex
        simp [F324_spindlelaw15_shaped_b0, hlen, hlt, hia, hld, hex, hn1]
        refine ⟨_, Nat.lt_of_lt_of_le ?_ (Nat.le_refl _), (hJ _ _ _).2 ⟨i + 1, rfl, hlt, by simp, rfl, fun b hb => ?_⟩⟩
        · omega
        · rw [List.take_add_one, hx, List.mem_append] at hb
          rcases hb with hb | hb
          · exact hno b hb
          · simp at hb
            rw [hb]
            exact hxn
    · exfalso
      obtain rfl : i = Tb.length := by omega
      rw [List.take_of_length_le (Nat.le_refl _)] at hno
      exact hno t0 h rfl
  simp [h4]
end
end Go.Sh
