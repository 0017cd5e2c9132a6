/- What symtab.Read comes to. -/
import Derived.Test.YtnemobbnlacmjaaShLsymtabC
set_option linter.unusedVariables false
set_option linter.unusedSimpArgs false
namespace Go.Sh
/-- The entries from a place on, after these. -/
def rdA (o : Ordr) (acc : List Sym) (at_ : Nat) (l : List UInt8) : List Sym × Int × Int :=
  if h : l = [] then (acc, 0, 0)
  else if h2 : l.length < 24 then ([], at_ + l.length, 100)
  else match entryOf (l.take 24) with
    | (x, none, w) => ([], at_ + w, 100)
    | (x, some s, w) => if 0 ≤ w then ([], at_ + w, 100) else if o.ok s x.value = true then rdA (o.step s x.value) (acc ++ [x]) (at_ + 24) (l.drop 24) else ([], at_, 101)
termination_by l.length
decreasing_by simp; omega
def readOf (l : List UInt8) : List Sym × Int × Int := if l.length < 24 then ([], l.length, 100) else match (l.take 24).findIdx? (fun b => decide (b ≠ 0)) with
  | some i => ([], i, 100)
  | none => rdA o0 [] 24 (l.drop 24)
theorem entryOf_none {l : List UInt8} {x : Sym} {w : Int} (h : entryOf l = (x, none, w)) : w = 4 := by
  unfold entryOf at h
  split at h
  · simp only [Prod.mk.injEq] at h
    exact h.2.2.symm
  · simp at h
theorem entryOf_le (l : List UInt8) : -1 ≤ (entryOf l).2.2 ∧ (entryOf l).2.2 ≤ 16 := by
  unfold entryOf
  split
  · simp
  · simp only
    repeat' split
    all_goals omega
def readOut (r : List Sym × Int × Int) : V := .tup [.d (.sl r.1.length (decide (0 < r.1.length)) (r.1.map Sym.cells).flatten), .d (.i .i64 r.2.1), .d (.i .i64 r.2.2)]
section
variable {pr : Prog} (hp : Sub symFns pr) {st : St}
include hp
theorem raw_Read {u : V} {l : List UInt8} (hu : SlD 1 u (l.map byC)) (hl : l.length ≤ 70368744177672) : RawD pr F32_symtab_Read [u] fun v s => (∃ acc, readOf l = (acc, 0, 0) ∧ v = .tup [.own 6 acc.length (decide (0 < acc.length)) (acc.map Sym.cells).flatten 0, .d (.i .i64 0), .d (.i .i64 0)] ∧ s.tips[0]? = some acc.length) ∨
    ∃ k p, readOf l = ([], p, k) ∧ v = .tup [.d (.sl 0 false []), .d (.i .i64 p), .d (.i .i64 k)] := by
  refine .of ?_
  have hlen := hu.len
  rw [List.length_map] at hlen
  simp [F32_symtab_Read, hlen, fillV, ofDs]
  generalize hL : cden pr (.loop _ _ _) _ _ = o
  obtain ⟨r, rfl, hQ⟩ : ∃ r, o = some r ∧ ((∃ acc e s, readOf l = (acc, 0, 0) ∧ r = (.exit 0, e, s) ∧ e.get 5 = some (.own 6 acc.length (decide (0 < acc.length)) (acc.map Sym.cells).flatten 0) ∧ s.tips[0]? = some acc.length) ∨
      ∃ k p e s, readOf l = ([], p, k) ∧ r = (.ret, e, s) ∧ e.get 2 = some (.d (.sl 0 false [])) ∧ e.get 3 = some (.d (.i .i64 p)) ∧ e.get 4 = some (.d (.i .i64 k))) := by
    rw [← hL]
    obtain ⟨J, hJ⟩ : ∃ J : Nat → Env → St → Prop, J = (fun n e st => ∃ (at_ : Nat) (o : Ordr) (acc : List Sym) (bs : List Blk), n = l.length + 1 - at_ ∧ at_ ≤ l.length ∧ 24 * acc.length ≤ at_ ∧ 0 ≤ o.tables ∧ o.tables ≤ at_ ∧
      (at_ = 0 ∧ o = o0 ∧ acc = [] ∨ 24 * acc.length + 24 ≤ at_ ∧ rdA o acc at_ (l.drop at_) = readOf l) ∧ st = s0 (.row (ofDs o.cells) :: bs) [acc.length] 0 0 ∧
      e = [(0, u), (5, .own 6 acc.length (decide (0 < acc.length)) (acc.map Sym.cells).flatten 0), (6, .ptr 0 0), (7, .d (.i .i64 at_))]) := ⟨_, rfl⟩
    refine loop_j J ?_ (n := l.length + 1) ?_
    rotate_left
    · rw [hJ]
      exact ⟨0, o0, [], [], by omega, by omega, by simp, by simp [o0], by simp [o0], .inl ⟨rfl, rfl, rfl⟩, by simp [o0, Ordr.cells, optS, ofDs], by simp⟩
    intro n e st hj
    rw [hJ] at hj
    obtain ⟨at_, o, acc, bs, rfl, hat, hacc, ht0, ht1, hph, rfl, rfl⟩ := hj
    have hsl : at_ + 24 ≤ l.length → ∃ w, slcV 1 u (some (.d (.i .i64 (at_ : Int)))) (some (.d (.i .i64 ((at_ : Int) + 24)))) none = some w ∧ SlD 1 w (((l.drop at_).take 24).map byC) := by
      intro h24
      obtain ⟨w, h1, h2⟩ := hu.slice (lo := some (.d (.i .i64 (at_ : Int)))) (hi := some (.d (.i .i64 ((at_ : Int) + 24)))) (a := at_) (b := at_ + 24) (by simp [Bd]) (by simp [Bd]) (by omega) (by simp; omega)
      refine ⟨w, h1, ?_⟩
      rw [← List.map_take, ← List.map_drop, List.drop_take, Nat.add_sub_cancel_left] at h2
      exact h2
    have a1 : IntKind.wrap .i64 ((at_ : Int) + 24) = at_ + 24 := wrap_i64 (by omega) (by omega)
    have a2 : IntKind.wrap .i64 ((l.length : Int) - at_) = l.length - at_ := wrap_i64 (by omega) (by omega)
    have hblk : ∀ (C : Int), ((l.length : Int) - at_ < 24) = (l.length < at_ + 24) := fun _ => by
      apply propext
      omega
    rcases hph with ⟨rfl, rfl, rfl⟩ | ⟨hge, hrd⟩
    · have a2' : IntKind.wrap .i64 (l.length : Int) = l.length := by simpa using a2
      have a3 : IntKind.wrap .i64 24 = 24 := rfl
      by_cases h24 : l.length < 24
      · have hres : readOf l = ([], (l.length : Int), 100) := by simp [readOf, h24]
        have h24' : (l.length : Int) < 24 := by omega
        simp [F32_symtab_Read_b0, hlen, a2', h24', hres]
      · obtain ⟨w, hw1, hw2⟩ := hsl (by omega)
        have h24' : ¬ (l.length : Int) < 24 := by omega
        have hcl : ((l.drop 0).take 24).length = 24 := by simp; omega
        simp only [List.drop_zero] at hcl hw2
        have hwl := hw2.len
        rw [List.length_map, hcl] at hwl
        simp at hw1
        simp [F32_symtab_Read_b0, hlen, a2', a3, h24', hw1, hwl]
        generalize hL2 : cden pr (.loop _ _ _) _ _ = o
        obtain ⟨r, rfl, hQ⟩ : ∃ r, o = some r ∧ (((l.take 24).findIdx? (fun b => decide (b ≠ 0)) = none ∧ ∃ e, r = (.exit 2, e, s0 (.row (ofDs o0.cells) :: bs) [0] 0 0) ∧ e.get 0 = some u ∧ e.get 5 = some (.own 6 0 false [] 0) ∧ e.get 6 = some (.ptr 0 0) ∧ e.get 7 = some (.d (.i .i64 0))) ∨
            ∃ i : Nat, (l.take 24).findIdx? (fun b => decide (b ≠ 0)) = some i ∧ ∃ e, r = (.ret, e, s0 (.row (ofDs o0.cells) :: bs) [0] 0 0) ∧ e.get 2 = some (.d (.sl 0 false [])) ∧ e.get 3 = some (.d (.i .i64 i)) ∧ e.get 4 = some (.d (.i .i64 100))) := by
          rw [← hL2]
          refine loop_j (fun n e st => ∃ i : Nat, i ≤ 24 ∧ n = 24 - i ∧ (∀ b ∈ (l.take 24).take i, b = 0) ∧ st = s0 (.row (ofDs o0.cells) :: bs) [0] 0 0 ∧
            e = [(0, u), (5, .own 6 0 false [] 0), (6, .ptr 0 0), (7, .d (.i .i64 0)), (40, w), (41, .d (.i .i64 24)), (42, .d (.i .i64 i))]) ?_ (n := 24) ?_
          rotate_left
          · exact ⟨0, by omega, by omega, by simp, rfl, by simp⟩
          rintro n e st ⟨i, hi, rfl, hz, rfl, rfl⟩
          generalize l.take 24 = c at *
          rcases Nat.lt_or_ge i 24 with h | h
          · obtain ⟨b, hb⟩ : ∃ b, c[i]? = some b := ⟨_, List.getElem?_eq_getElem (by omega)⟩
            have h1 : IntKind.wrap .i64 ((i : Int) + 1) = i + 1 := wrap_i64 (by omega) (by omega)
            have hi' : (i : Int) < 24 := by omega
            have hia := hw2.iaddr (i := (i : Int)) (k := .i64) (by omega) (by simp; omega)
            have hld := fun st => hw2.load (st := st) (i := i) (o := 0) (n := 1) (agg := false) (el := byC b) (by simp [hb]) (by omega) (by omega)
            by_cases hb0 : b.toNat = 0
            · simp [F32_symtab_Read_b1, hi', hia, hld, byC, ofDs, h1, hb0]
              refine ⟨24 - (i + 1), by omega, i + 1, by omega, by omega, ?_, by omega⟩
              intro x hx
              rw [List.take_add_one, hb] at hx
              simp only [Option.toList, List.mem_append, List.mem_singleton] at hx
              rcases hx with hx | rfl
              · exact hz x hx
              · exact UInt8.toNat_inj.1 hb0
            · have hfi : c.findIdx? (fun b => decide (b ≠ 0)) = some i := by
                obtain ⟨hlt, hbe⟩ := List.getElem?_eq_some_iff.1 hb
                rw [List.findIdx?_eq_some_iff_getElem]
                refine ⟨hlt, ?_, fun j hj => ?_⟩
                · rw [hbe]
                  simp
                  rintro rfl
                  exact hb0 rfl
                · have := hz c[j] (List.mem_take_iff_getElem.2 ⟨j, by omega, rfl⟩)
                  simp [this]
              simp [F32_symtab_Read_b1, hi', hia, hld, byC, ofDs, h1, hb0]
              exact ⟨i, by simpa using hfi, rfl⟩
          · obtain rfl : i = 24 := by omega
            have hfi : c.findIdx? (fun b => decide (b ≠ 0)) = none := by
              rw [List.take_of_length_le (by omega)] at hz
              simpa using hz
            simp [F32_symtab_Read_b1]
            simpa using hfi
        rcases hQ with ⟨hfi, e, rfl, g0, g5, g6, g7⟩ | ⟨i, hfi, e, rfl, g2, g3, g4⟩
        · have hres : rdA o0 [] 24 (l.drop 24) = readOf l := by
            unfold readOf
            rw [if_neg h24, hfi]
          simp [g0, g5, g6, g7, a3]
          refine ⟨l.length + 1 - 24, by omega, ?_⟩
          rw [hJ]
          exact ⟨24, o0, [], bs, rfl, by omega, by simp, by simp [o0], by simp [o0], .inr ⟨by simp, hres⟩, rfl, by simp⟩
        · have hres : readOf l = ([], (i : Int), 100) := by
            unfold readOf
            rw [if_neg h24, hfi]
          simp [g2, g3, g4, hres]
    · have hne : ¬ (at_ : Int) = 0 := by omega
      have hne2 : ¬ at_ = 0 := by omega
      rcases Nat.lt_or_ge at_ l.length with hlt | hge2
      rotate_left
      · obtain rfl : at_ = l.length := by omega
        rw [List.drop_length, rdA] at hrd
        simp at hrd
        simp [F32_symtab_Read_b0, hlen, hne, hne2]
        exact ⟨acc, by rw [← hrd], _, _, ⟨rfl, rfl⟩, by simp, by simp⟩
      have hlt' : (at_ : Int) < l.length := by omega
      have hnil : l.drop at_ ≠ [] := by
        intro h
        have := congrArg List.length h
        simp at this
        omega
      rw [rdA, dif_neg hnil] at hrd
      by_cases h24 : l.length < at_ + 24
      · have h24' : (l.length : Int) - at_ < 24 := by omega
        rw [dif_pos (by simp; omega)] at hrd
        simp [F32_symtab_Read_b0, hlen, hne, hne2, hlt, a2, h24']
        rw [← hrd]
        simp
        exact ⟨_, _, ⟨rfl, rfl⟩, by omega, rfl⟩
      rw [dif_neg (by simp; omega)] at hrd
      have h24' : ¬ (l.length : Int) - at_ < 24 := by omega
      obtain ⟨w, hw1, hw2⟩ := hsl (by omega)
      have hcl : ((l.drop at_).take 24).length = 24 := by simp; omega
      have hen := fun st => den_entry (pr := pr) hp (st := st) hw2.c hcl
      have hen1 := @entryOf_none ((l.drop at_).take 24)
      have hle := entryOf_le ((l.drop at_).take 24)
      generalize entryOf ((l.drop at_).take 24) = en at *
      obtain ⟨x, so, q⟩ := en
      simp only at hen
      have hle : -1 ≤ q ∧ q ≤ 16 := hle
      have a4 : IntKind.wrap .i64 ((at_ : Int) + q) = at_ + q := wrap_i64 (by omega) (by omega)
      by_cases hq : 0 ≤ q
      · have hres : readOf l = ([], (at_ : Int) + q, 100) := by
          rw [← hrd]
          cases so with
          | none => rfl
          | some s => simp [hq]
        simp [F32_symtab_Read_b0, hlen, hne, hne2, hlt, a1, a2, h24', hw1, hen, fillV, lay, ofDs, Sym.cells, hq, a4, hres]
      · cases so with
        | none => exact absurd (hen1 rfl) (by omega)
        | some s =>
          dsimp only at hrd
          rw [if_neg hq] at hrd
          have hnext : ∀ bs' : List Blk, den pr 54 [.ptr 0 0, .d s.d, .d (.i .i64 x.value)] (s0 (.row (ofDs o.cells) :: bs') [acc.length] 0 0) = some (.d (.b (o.ok s x.value)), s0 (.row (ofDs (o.step s x.value).cells) :: bs') [acc.length] 0 0) := by
            intro bs'
            have := den_next (pr := pr) hp (bs := .row (ofDs o.cells) :: bs') (ts := [acc.length]) (fl := 0) (tf := 0) (k := 0) o s x.value rfl (by omega) ht0 (by omega)
            simpa using this
          simp only [ofDs] at hnext
          simp only [optS] at hen
          cases hok : o.ok s x.value
          · have hres : readOf l = ([], (at_ : Int), 101) := by rw [← hrd, hok]; rfl
            simp [F32_symtab_Read_b0, hlen, hne, hne2, hlt, a1, a2, h24', hw1, hen, fillV, lay, ofDs, Sym.cells, hq, hnext, hok, hres]
          · rw [hok] at hrd
            simp only [if_true] at hrd
            have hb1 : (acc.length + 1) * 48 ≤ 140737488355328 := by omega
            have hb2 : acc.length + 1 ≤ 140737488355328 := by omega
            have hfl : (acc.map Sym.cells).flatten.length = acc.length * 6 := by
              rw [flatten_len (sz := 6) (fun y hy => by simp only [List.mem_map] at hy; obtain ⟨z, _, rfl⟩ := hy; rfl), List.length_map]
            simp [F32_symtab_Read_b0, hlen, hne, hne2, hlt, a1, a2, h24', hw1, hen, fillV, lay, ofDs, Sym.cells, hq, hnext, hok, reps, appV, vw, hb1, hb2, hfl]
            refine ⟨l.length + 1 - (at_ + 24), by omega, ?_⟩
            rw [hJ]
            refine ⟨at_ + 24, o.step s x.value, acc ++ [x], bs ++ [.row (x.cells.map .d)], rfl, by omega, by simp; omega, ?_, ?_, .inr ⟨by simp; omega, ?_⟩, ?_, ?_⟩
            · simp only [Ordr.step]
              split <;> omega
            · simp only [Ordr.step]
              split <;> omega
            · rw [← hrd, List.drop_drop]
            · simp [ofDs, Sym.cells]
            · simp [Sym.cells]
  rcases hQ with ⟨acc, e, s, hw, rfl, h4, h6⟩ | ⟨k, p, e, s, hw, rfl, h2, h3, h5⟩
  · simp [h4, hw, h6]
  · simp [h2, h3, h5, hw]
theorem den_ReadSym {v : V} {l : List UInt8} (hv : SlC 1 v (l.map byC)) (hl : l.length ≤ 70368744177672) : den pr 32 [v] st = some (readOut (readOf l), st) := by
  obtain ⟨u, hc, hu⟩ := hv.close
  refine (raw_Read hp hu hl).den (hp.at 21 rfl) rfl rfl (by simp [hc]) ?_
  rintro v s (⟨acc, hw, rfl, _⟩ | ⟨k, p, hw, rfl⟩)
  · simp [readOut, hw]
  · simp [readOut, hw]
end
end Go.Sh
