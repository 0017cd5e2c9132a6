/- The document's Encode. -/
import Derived.Test.YtbjckcenlfgcaabDoorShLcodeI
set_option linter.unusedVariables false
set_option linter.unusedSimpArgs false
namespace Go.Sh
def grownB (i : Nat) (A : List UInt8) : V := if i = 0 then .d (.sl 0 false []) else .own 1 A.length true (byteCells A) 0
def grownT (i : Nat) (A : List UInt8) : List Nat := if i = 0 then [] else [A.length]
def refEnc (is : List Ins) : V := match firstBad is with
  | some i => .tup [.d (.sl 0 false []), .d (.i .i64 i), .d (.i .i64 (mayV (is.getD i ⟨0, 0, 0, 0, 0⟩)))]
  | none => .tup [bsl (decide (0 < is.length)) (iencs is), .d (.i .i64 0), .d (.i .i64 0)]
section
variable {pr : Prog} (hR : RefOk pr) (hp : Sub refEFns pr) {st : St}
include hR hp
theorem den_refEncode {v : V} {is : List Ins} (hv : SlC 5 v (is.map Ins.cells)) (hl : is.length ≤ 7036874417766) : den pr 134 [v] st = some (refEnc is, st) := by
  obtain ⟨u, hc, hu⟩ := hv.close
  refine den_shut (hp.at 3 rfl) rfl rfl (by simp [hc]; rfl) ?_
  have hlen := hu.len
  rw [List.length_map] at hlen
  simp [F134_spindleref3_Encode]
  generalize hL : cden pr (.loop _ _ _) _ _ = o
  obtain ⟨r, rfl, hQ⟩ : ∃ r, o = some r ∧ ((firstBad is = none ∧ ∃ e s, r = (.exit 0, e, s) ∧ e.get 5 = some (grownB is.length (iencs is))) ∨ ∃ i e s, firstBad is = some i ∧ r = (.ret, e, s) ∧ e.get 2 = some (.d (.sl 0 false [])) ∧ e.get 3 = some (.d (.i .i64 i)) ∧ e.get 4 = some (.d (.i .i64 (mayV (is.getD i ⟨0, 0, 0, 0, 0⟩))))) := by
    rw [← hL]
    obtain ⟨J, hJ⟩ : ∃ J : Nat → Env → St → Prop, J = (fun n e st => ∃ i : Nat, i ≤ is.length ∧ n = is.length - i ∧ (∀ y ∈ is.take i, mayV y = 0) ∧ st = s0 [] (grownT i (iencs (is.take i))) 0 0 ∧ e = [(0, u), (5, grownB i (iencs (is.take i))), (6, .d (.i .i64 i))]) := ⟨_, rfl⟩
    refine loop_j J ?_ (n := is.length) ?_
    rotate_left
    · rw [hJ]
      exact ⟨0, by omega, by omega, by simp, rfl, by simp [grownB]⟩
    intro n e st hj
    rw [hJ] at hj
    obtain ⟨i, hi, rfl, hok, rfl, rfl⟩ := hj
    rcases Nat.lt_or_ge i is.length with h | h
    · obtain ⟨x, hx⟩ : ∃ x, is[i]? = some x := ⟨_, List.getElem?_eq_getElem h⟩
      have h1 : IntKind.wrap .i64 ((i : Int) + 1) = i + 1 := wrap_i64 (by omega) (by omega)
      have hia := hu.iaddr (i := (i : Int)) (k := .i64) (by omega) (by simp; omega)
      have hld : ∀ st, loadV 5 true st (elP 5 u i 0) = some (.agg (ofDs x.cells)) := fun st => hu.load (st := st) (i := i) (o := 0) (n := 5) (agg := true) (el := x.cells) (by simp [hx]) (by omega) (by omega)
      simp only [Int.toNat_natCast] at hia
      have hm := fun st => den_rmay hR (st := st) x
      have hby := fun st => den_refBytes hp (st := st) x
      by_cases hb : mayV x = 0
      · have hxl : x.enc.length ≤ 16 := by
          rw [Ins.enc_len]
          split <;> omega
        have hsb := slotsOf_le (is.take i)
        rw [List.length_take] at hsb
        have htl := iencs_len (is.take i)
        have happ : iencs (is.take (i + 1)) = iencs (is.take i) ++ x.enc := by
          rw [take_succ' hx, iencs_app]
          simp [iencs]
        have h0 : i = 0 → iencs (is.take i) = [] := fun e => by subst e; rfl
        have hxp : 0 < x.enc.length := by
          rw [Ins.enc_len]
          split <;> omega
        have hok' : ∀ y ∈ is.take (i + 1), mayV y = 0 := by
          intro y hy
          rw [take_succ' hx] at hy
          simp only [List.mem_append, List.mem_singleton] at hy
          rcases hy with hy | rfl
          · exact hok y hy
          · exact hb
        generalize iencs (is.take i) = A at *
        generalize x.enc = B at *
        have hb1 : A.length + B.length ≤ 140737488355328 := by omega
        have hbe : (bsl true B) = .d (.sl B.length true (byteCells B)) := rfl
        have hap : appV 1 1 (s0 [] (grownT i A) 0 0) (grownB i A) (bsl true B) = some (grownB (i + 1) (A ++ B), s0 [] (grownT (i + 1) (A ++ B)) 0 0) := by
          by_cases hi0 : i = 0
          · obtain rfl := h0 hi0
            subst hi0
            have hb2 : B.length ≤ 140737488355328 := by omega
            simp [grownB, grownT, appV, hbe, vw, byteCells_len, hb2, hxp]
          · simp [grownB, grownT, hi0, appV, hbe, vw, byteCells_len, hb1, byteCells_app]
        simp [F134_spindleref3_Encode_b0, h, hlen, hia, hld, hm, hb, hby, hap, h1]
        refine ⟨is.length - (i + 1), by omega, ?_⟩
        rw [hJ]
        exact ⟨i + 1, by omega, rfl, hok', by rw [happ], by rw [happ]; simp⟩
      · have hfb := firstBad_some hok ⟨x, hx, hb⟩
        obtain ⟨_, hxx⟩ := List.getElem?_eq_some_iff.1 hx
        simp [F134_spindleref3_Encode_b0, h, hlen, hia, hld, hm, hb, hfb, hxx]
    · have hil : i = is.length := by omega
      rw [hil, List.take_length] at hok
      have hfb := firstBad_none.2 hok
      simp [F134_spindleref3_Encode_b0, hil, hlen, hfb]
  rcases hQ with ⟨hfb, e, s, rfl, g0⟩ | ⟨i, e, s, hfb, rfl, g2, g3, g4⟩
  rotate_left
  · simp [g2, g3, g4, refEnc, hfb]
  simp [g0, refEnc, hfb]
  by_cases h0 : is.length = 0
  · obtain rfl : is = [] := List.eq_nil_of_length_eq_zero h0
    simp [grownB, V.ok1, esc, esc1s, esc1, escC, iencs, bsl, byteCells]
  · have hp0 : 0 < is.length := by omega
    simp [grownB, h0, hp0, V.ok1, esc, esc1s, esc1, escC, bsl]
end
end Go.Sh
