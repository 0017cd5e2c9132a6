/- What a field may be; registers that rise. -/
import Derived.Test.YtbjckcenlfgcaabDoorShLisaTells
set_option linter.unusedVariables false
set_option linter.unusedSimpArgs false
namespace Go.Sh
def lawRFns : List (Nat × SFn) := [(119, F119_spindlelaw2_IsaRow), (117, F117_spindlelaw2_within), (118, F118_spindlelaw2_fixed)]
/-- The numbers other than 0 that some row of an opcode fixes for a field. -/
def fixedL (op : Nat) (field : Int) : List Int :=
  if field = 1 then (if op = 133 ∨ op = 24 then [1] else [])
  else if field = 2 then (if op = 55 ∨ op = 63 ∨ op = 52 ∨ op = 60 ∨ op = 151 ∨ op = 159 ∨ op = 148 ∨ op = 156 then [1] else if op = 191 then [8, 16, 32] else if op = 188 then [8, 16] else [])
  else if field = 3 then (if op = 212 ∨ op = 220 ∨ op = 215 then [16, 32, 64] else if op = 219 ∨ op = 195 then [64, 80, 160, 1, 65, 81, 161, 225, 241] else [])
  else []
section
variable {pr : Prog} (hl : Sub lawRFns pr) {st : St}
include hl
theorem den_fixed1_133 (x : Int) : den pr 118 [.d (.i .i64 133), .d (.i .i64 1), .d (.i .i64 x)] st = some (.d (.b (decide (x ∈ fixedL 133 1))), st) := by
  refine den_shut (hl.at 2 rfl) rfl rfl (by simp; rfl) ?_
  by_cases x1 : x = 1
  · subst x1
    simp [F118_spindlelaw2_fixed, fixedL]
  simp [F118_spindlelaw2_fixed, fixedL, x1]
theorem den_fixed1_24 (x : Int) : den pr 118 [.d (.i .i64 24), .d (.i .i64 1), .d (.i .i64 x)] st = some (.d (.b (decide (x ∈ fixedL 24 1))), st) := by
  refine den_shut (hl.at 2 rfl) rfl rfl (by simp; rfl) ?_
  by_cases x1 : x = 1
  · subst x1
    simp [F118_spindlelaw2_fixed, fixedL]
  simp [F118_spindlelaw2_fixed, fixedL, x1]
theorem den_fixed2_55 (x : Int) : den pr 118 [.d (.i .i64 55), .d (.i .i64 2), .d (.i .i64 x)] st = some (.d (.b (decide (x ∈ fixedL 55 2))), st) := by
  refine den_shut (hl.at 2 rfl) rfl rfl (by simp; rfl) ?_
  by_cases x1 : x = 1
  · subst x1
    simp [F118_spindlelaw2_fixed, fixedL]
  simp [F118_spindlelaw2_fixed, fixedL, x1]
theorem den_fixed2_63 (x : Int) : den pr 118 [.d (.i .i64 63), .d (.i .i64 2), .d (.i .i64 x)] st = some (.d (.b (decide (x ∈ fixedL 63 2))), st) := by
  refine den_shut (hl.at 2 rfl) rfl rfl (by simp; rfl) ?_
  by_cases x1 : x = 1
  · subst x1
    simp [F118_spindlelaw2_fixed, fixedL]
  simp [F118_spindlelaw2_fixed, fixedL, x1]
theorem den_fixed2_52 (x : Int) : den pr 118 [.d (.i .i64 52), .d (.i .i64 2), .d (.i .i64 x)] st = some (.d (.b (decide (x ∈ fixedL 52 2))), st) := by
  refine den_shut (hl.at 2 rfl) rfl rfl (by simp; rfl) ?_
  by_cases x1 : x = 1
  · subst x1
    simp [F118_spindlelaw2_fixed, fixedL]
  simp [F118_spindlelaw2_fixed, fixedL, x1]
theorem den_fixed2_60 (x : Int) : den pr 118 [.d (.i .i64 60), .d (.i .i64 2), .d (.i .i64 x)] st = some (.d (.b (decide (x ∈ fixedL 60 2))), st) := by
  refine den_shut (hl.at 2 rfl) rfl rfl (by simp; rfl) ?_
  by_cases x1 : x = 1
  · subst x1
    simp [F118_spindlelaw2_fixed, fixedL]
  simp [F118_spindlelaw2_fixed, fixedL, x1]
theorem den_fixed2_151 (x : Int) : den pr 118 [.d (.i .i64 151), .d (.i .i64 2), .d (.i .i64 x)] st = some (.d (.b (decide (x ∈ fixedL 151 2))), st) := by
  refine den_shut (hl.at 2 rfl) rfl rfl (by simp; rfl) ?_
  by_cases x1 : x = 1
  · subst x1
    simp [F118_spindlelaw2_fixed, fixedL]
  simp [F118_spindlelaw2_fixed, fixedL, x1]
theorem den_fixed2_159 (x : Int) : den pr 118 [.d (.i .i64 159), .d (.i .i64 2), .d (.i .i64 x)] st = some (.d (.b (decide (x ∈ fixedL 159 2))), st) := by
  refine den_shut (hl.at 2 rfl) rfl rfl (by simp; rfl) ?_
  by_cases x1 : x = 1
  · subst x1
    simp [F118_spindlelaw2_fixed, fixedL]
  simp [F118_spindlelaw2_fixed, fixedL, x1]
theorem den_fixed2_148 (x : Int) : den pr 118 [.d (.i .i64 148), .d (.i .i64 2), .d (.i .i64 x)] st = some (.d (.b (decide (x ∈ fixedL 148 2))), st) := by
  refine den_shut (hl.at 2 rfl) rfl rfl (by simp; rfl) ?_
  by_cases x1 : x = 1
  · subst x1
    simp [F118_spindlelaw2_fixed, fixedL]
  simp [F118_spindlelaw2_fixed, fixedL, x1]
theorem den_fixed2_156 (x : Int) : den pr 118 [.d (.i .i64 156), .d (.i .i64 2), .d (.i .i64 x)] st = some (.d (.b (decide (x ∈ fixedL 156 2))), st) := by
  refine den_shut (hl.at 2 rfl) rfl rfl (by simp; rfl) ?_
  by_cases x1 : x = 1
  · subst x1
    simp [F118_spindlelaw2_fixed, fixedL]
  simp [F118_spindlelaw2_fixed, fixedL, x1]
theorem den_fixed2_191 (x : Int) : den pr 118 [.d (.i .i64 191), .d (.i .i64 2), .d (.i .i64 x)] st = some (.d (.b (decide (x ∈ fixedL 191 2))), st) := by
  refine den_shut (hl.at 2 rfl) rfl rfl (by simp; rfl) ?_
  by_cases x8 : x = 8
  · subst x8
    simp [F118_spindlelaw2_fixed, fixedL]
  by_cases x16 : x = 16
  · subst x16
    simp [F118_spindlelaw2_fixed, fixedL]
  by_cases x32 : x = 32
  · subst x32
    simp [F118_spindlelaw2_fixed, fixedL]
  simp [F118_spindlelaw2_fixed, fixedL, x8, x16, x32]
theorem den_fixed2_188 (x : Int) : den pr 118 [.d (.i .i64 188), .d (.i .i64 2), .d (.i .i64 x)] st = some (.d (.b (decide (x ∈ fixedL 188 2))), st) := by
  refine den_shut (hl.at 2 rfl) rfl rfl (by simp; rfl) ?_
  by_cases x8 : x = 8
  · subst x8
    simp [F118_spindlelaw2_fixed, fixedL]
  by_cases x16 : x = 16
  · subst x16
    simp [F118_spindlelaw2_fixed, fixedL]
  by_cases x32 : x = 32
  · subst x32
    simp [F118_spindlelaw2_fixed, fixedL]
  simp [F118_spindlelaw2_fixed, fixedL, x8, x16, x32]
theorem den_fixed3_212 (x : Int) : den pr 118 [.d (.i .i64 212), .d (.i .i64 3), .d (.i .i64 x)] st = some (.d (.b (decide (x ∈ fixedL 212 3))), st) := by
  refine den_shut (hl.at 2 rfl) rfl rfl (by simp; rfl) ?_
  by_cases x16 : x = 16
  · subst x16
    simp [F118_spindlelaw2_fixed, fixedL]
  by_cases x32 : x = 32
  · subst x32
    simp [F118_spindlelaw2_fixed, fixedL]
  by_cases x64 : x = 64
  · subst x64
    simp [F118_spindlelaw2_fixed, fixedL]
  simp [F118_spindlelaw2_fixed, fixedL, x16, x32, x64]
theorem den_fixed3_220 (x : Int) : den pr 118 [.d (.i .i64 220), .d (.i .i64 3), .d (.i .i64 x)] st = some (.d (.b (decide (x ∈ fixedL 220 3))), st) := by
  refine den_shut (hl.at 2 rfl) rfl rfl (by simp; rfl) ?_
  by_cases x16 : x = 16
  · subst x16
    simp [F118_spindlelaw2_fixed, fixedL]
  by_cases x32 : x = 32
  · subst x32
    simp [F118_spindlelaw2_fixed, fixedL]
  by_cases x64 : x = 64
  · subst x64
    simp [F118_spindlelaw2_fixed, fixedL]
  simp [F118_spindlelaw2_fixed, fixedL, x16, x32, x64]
theorem den_fixed3_215 (x : Int) : den pr 118 [.d (.i .i64 215), .d (.i .i64 3), .d (.i .i64 x)] st = some (.d (.b (decide (x ∈ fixedL 215 3))), st) := by
  refine den_shut (hl.at 2 rfl) rfl rfl (by simp; rfl) ?_
  by_cases x16 : x = 16
  · subst x16
    simp [F118_spindlelaw2_fixed, fixedL]
  by_cases x32 : x = 32
  · subst x32
    simp [F118_spindlelaw2_fixed, fixedL]
  by_cases x64 : x = 64
  · subst x64
    simp [F118_spindlelaw2_fixed, fixedL]
  simp [F118_spindlelaw2_fixed, fixedL, x16, x32, x64]
theorem den_fixed3_219 (x : Int) : den pr 118 [.d (.i .i64 219), .d (.i .i64 3), .d (.i .i64 x)] st = some (.d (.b (decide (x ∈ fixedL 219 3))), st) := by
  refine den_shut (hl.at 2 rfl) rfl rfl (by simp; rfl) ?_
  by_cases x64 : x = 64
  · subst x64
    simp [F118_spindlelaw2_fixed, fixedL]
  by_cases x80 : x = 80
  · subst x80
    simp [F118_spindlelaw2_fixed, fixedL]
  by_cases x160 : x = 160
  · subst x160
    simp [F118_spindlelaw2_fixed, fixedL]
  by_cases x1 : x = 1
  · subst x1
    simp [F118_spindlelaw2_fixed, fixedL]
  by_cases x65 : x = 65
  · subst x65
    simp [F118_spindlelaw2_fixed, fixedL]
  by_cases x81 : x = 81
  · subst x81
    simp [F118_spindlelaw2_fixed, fixedL]
  by_cases x161 : x = 161
  · subst x161
    simp [F118_spindlelaw2_fixed, fixedL]
  by_cases x225 : x = 225
  · subst x225
    simp [F118_spindlelaw2_fixed, fixedL]
  by_cases x241 : x = 241
  · subst x241
    simp [F118_spindlelaw2_fixed, fixedL]
  simp [F118_spindlelaw2_fixed, fixedL, x64, x80, x160, x1, x65, x81, x161, x225, x241]
theorem den_fixed3_195 (x : Int) : den pr 118 [.d (.i .i64 195), .d (.i .i64 3), .d (.i .i64 x)] st = some (.d (.b (decide (x ∈ fixedL 195 3))), st) := by
  refine den_shut (hl.at 2 rfl) rfl rfl (by simp; rfl) ?_
  by_cases x64 : x = 64
  · subst x64
    simp [F118_spindlelaw2_fixed, fixedL]
  by_cases x80 : x = 80
  · subst x80
    simp [F118_spindlelaw2_fixed, fixedL]
  by_cases x160 : x = 160
  · subst x160
    simp [F118_spindlelaw2_fixed, fixedL]
  by_cases x1 : x = 1
  · subst x1
    simp [F118_spindlelaw2_fixed, fixedL]
  by_cases x65 : x = 65
  · subst x65
    simp [F118_spindlelaw2_fixed, fixedL]
  by_cases x81 : x = 81
  · subst x81
    simp [F118_spindlelaw2_fixed, fixedL]
  by_cases x161 : x = 161
  · subst x161
    simp [F118_spindlelaw2_fixed, fixedL]
  by_cases x225 : x = 225
  · subst x225
    simp [F118_spindlelaw2_fixed, fixedL]
  by_cases x241 : x = 241
  · subst x241
    simp [F118_spindlelaw2_fixed, fixedL]
  simp [F118_spindlelaw2_fixed, fixedL, x64, x80, x160, x1, x65, x81, x161, x225, x241]
theorem den_fixed (op : Nat) (field x : Int) : den pr 118 [.d (.i .i64 op), .d (.i .i64 field), .d (.i .i64 x)] st = some (.d (.b (decide (x ∈ fixedL op field))), st) := by
  have hoi : ∀ k : Nat, ((op : Int) = (k : Int)) = (op = k) := fun k => by apply propext; omega
  by_cases f1 : field = 1
  · subst f1
    by_cases o133 : op = 133
    · subst o133
      exact den_fixed1_133 hl x
    by_cases o24 : op = 24
    · subst o24
      exact den_fixed1_24 hl x
    have hoi133 : ((op : Int) = 133) = (op = 133) := hoi 133
    have hoi24 : ((op : Int) = 24) = (op = 24) := hoi 24
    refine den_shut (hl.at 2 rfl) rfl rfl (by simp; rfl) ?_
    simp [F118_spindlelaw2_fixed, fixedL, hoi133, hoi24, o133, o24]
  by_cases f2 : field = 2
  · subst f2
    by_cases o55 : op = 55
    · subst o55
      exact den_fixed2_55 hl x
    by_cases o63 : op = 63
    · subst o63
      exact den_fixed2_63 hl x
    by_cases o52 : op = 52
    · subst o52
      exact den_fixed2_52 hl x
    by_cases o60 : op = 60
    · subst o60
      exact den_fixed2_60 hl x
    by_cases o151 : op = 151
    · subst o151
      exact den_fixed2_151 hl x
    by_cases o159 : op = 159
    · subst o159
      exact den_fixed2_159 hl x
    by_cases o148 : op = 148
    · subst o148
      exact den_fixed2_148 hl x
    by_cases o156 : op = 156
    · subst o156
      exact den_fixed2_156 hl x
    by_cases o191 : op = 191
    · subst o191
      exact den_fixed2_191 hl x
    by_cases o188 : op = 188
    · subst o188
      exact den_fixed2_188 hl x
    have hoi55 : ((op : Int) = 55) = (op = 55) := hoi 55
    have hoi63 : ((op : Int) = 63) = (op = 63) := hoi 63
    have hoi52 : ((op : Int) = 52) = (op = 52) := hoi 52
    have hoi60 : ((op : Int) = 60) = (op = 60) := hoi 60
    have hoi151 : ((op : Int) = 151) = (op = 151) := hoi 151
    have hoi159 : ((op : Int) = 159) = (op = 159) := hoi 159
    have hoi148 : ((op : Int) = 148) = (op = 148) := hoi 148
    have hoi156 : ((op : Int) = 156) = (op = 156) := hoi 156
    have hoi191 : ((op : Int) = 191) = (op = 191) := hoi 191
    have hoi188 : ((op : Int) = 188) = (op = 188) := hoi 188
    refine den_shut (hl.at 2 rfl) rfl rfl (by simp; rfl) ?_
    simp [F118_spindlelaw2_fixed, fixedL, hoi55, hoi63, hoi52, hoi60, hoi151, hoi159, hoi148, hoi156, hoi191, hoi188, o55, o63, o52, o60, o151, o159, o148, o156, o191, o188]
  by_cases f3 : field = 3
  · subst f3
    by_cases o212 : op = 212
    · subst o212
      exact den_fixed3_212 hl x
    by_cases o220 : op = 220
    · subst o220
      exact den_fixed3_220 hl x
    by_cases o215 : op = 215
    · subst o215
      exact den_fixed3_215 hl x
    by_cases o219 : op = 219
    · subst o219
      exact den_fixed3_219 hl x
    by_cases o195 : op = 195
    · subst o195
      exact den_fixed3_195 hl x
    have hoi212 : ((op : Int) = 212) = (op = 212) := hoi 212
    have hoi220 : ((op : Int) = 220) = (op = 220) := hoi 220
    have hoi215 : ((op : Int) = 215) = (op = 215) := hoi 215
    have hoi219 : ((op : Int) = 219) = (op = 219) := hoi 219
    have hoi195 : ((op : Int) = 195) = (op = 195) := hoi 195
    refine den_shut (hl.at 2 rfl) rfl rfl (by simp; rfl) ?_
    simp [F118_spindlelaw2_fixed, fixedL, hoi212, hoi220, hoi215, hoi219, hoi195, o212, o220, o215, o219, o195]
  refine den_shut (hl.at 2 rfl) rfl rfl (by simp; rfl) ?_
  simp [F118_spindlelaw2_fixed, fixedL, f1, f2, f3]
/-- Registers that rise. -/
def Within (l : List Int) : Prop := ∀ (i : Nat) (x : Int), l[i]? = some x → 0 ≤ x ∧ x ≤ 10 ∧ (0 < i → ∃ y, l[i - 1]? = some y ∧ y < x)
theorem den_within (l : List Int) (hw : Within l) (hlen : l.length ≤ 1000) : den pr 117 [isl l] st = some (.d (.b true), st) := by
  refine den_shut (hl.at 1 rfl) rfl rfl (by simp; rfl) ?_
  have hu := isl_d l
  have hlv : lenV (isl l) = some l.length := rfl
  simp [F117_spindlelaw2_within]
  generalize hL : cden pr (.loop _ _ _) _ _ = o
  obtain ⟨r, rfl, hQ⟩ : ∃ r, o = some r ∧ ∃ e, r = (.exit 0, e, s0 [] [] 0 0) := by
    rw [← hL]
    refine loop_n l.length (fun i => [(0, isl l), (3, .d (.i .i64 i))]) (fun _ => s0 [] [] 0 0) ?_ (by simp) (by simp)
    intro i hi
    rcases Nat.lt_or_ge i l.length with h | h
    · obtain ⟨x, hx⟩ : ∃ x, l[i]? = some x := ⟨_, List.getElem?_eq_getElem h⟩
      obtain ⟨w0, w1, w2⟩ := hw i x hx
      have h1 : IntKind.wrap .i64 ((i : Int) + 1) = i + 1 := wrap_i64 (by omega) (by omega)
      have hia := hu.iaddr (i := (i : Int)) (k := .i64) (by omega) (by simp; omega)
      have hld := fun st => hu.load (st := st) (i := i) (o := 0) (n := 1) (agg := false) (el := ic x) (by simp [hx]) (by omega) (by omega)
      simp [ic, ofDs] at hia hld
      have w0' : ¬ x < 0 := by omega
      have w1' : ¬ 10 < x := by omega
      by_cases hi0 : i = 0
      · subst hi0
        simp at hia
        have h1 : IntKind.wrap .i64 1 = 1 := wrap_i64 (by omega) (by omega)
        simp [F117_spindlelaw2_within_b0, hlv, h, hia, hld, h1, w0', w1']
      · obtain ⟨y, hy, hyx⟩ := w2 (by omega)
        have h2 : IntKind.wrap .i64 ((i : Int) - 1) = ((i - 1 : Nat) : Int) := by rw [wrap_i64 (by omega) (by omega)]; omega
        have hia' := hu.iaddr (i := ((i - 1 : Nat) : Int)) (k := .i64) (by omega) (by simp; omega)
        have hld' := fun st => hu.load (st := st) (i := i - 1) (o := 0) (n := 1) (agg := false) (el := ic y) (by simp [hy]) (by omega) (by omega)
        rw [Int.toNat_natCast] at hia'
        simp [ic, ofDs] at hld'
        have hip : (0 : Int) < i := by omega
        have hip' : 0 < i := by omega
        have hxy : ¬ x ≤ y := by omega
        simp [F117_spindlelaw2_within_b0, hlv, h, hia, hld, h1, w0', w1', h2, hia', hld', hip, hip', hxy]
    · have hil : i = l.length := by omega
      simp [F117_spindlelaw2_within_b0, hlv, hil]
  obtain ⟨e, rfl⟩ := hQ
  simp
end
/-- What a field that is not used may be. -/
theorem cls_fixed : ∀ op : Nat, op < 256 → (match clsAt op with
    | some c => (c.e != 0) || ((c.d.off || c.d.offs.all fun o => decide (o = 0 ∨ o ∈ fixedL op 2)) && (c.d.imm || c.d.imms.all fun o => decide (o = 0 ∨ o ∈ fixedL op 3)) && (!c.d.named || decide ((1 : Int) ∈ fixedL op 1)))
    | none => true) = true := by decide +kernel
def prWithin (l : List Int) : Bool := (List.range l.length).all fun i => match l[i]? with
  | some x => decide (0 ≤ x ∧ x ≤ 10) && (i == 0 || (match l[i - 1]? with | some y => decide (y < x) | none => false))
  | none => false
theorem within_of {l : List Int} (h : prWithin l = true) : Within l := by
  intro i x hx
  have hlt := (List.getElem?_eq_some_iff.1 hx).1
  have := List.all_eq_true.1 h i (by simpa using hlt)
  rw [hx] at this
  simp only [Bool.and_eq_true, decide_eq_true_eq, Bool.or_eq_true, beq_iff_eq] at this
  obtain ⟨h1, h2⟩ := this
  refine ⟨h1.1, h1.2, fun hi => ?_⟩
  rcases h2 with h2 | h2
  · omega
  · split at h2
    · exact ⟨_, by assumption, by simpa using h2⟩
    · cases h2
theorem within_marked (m : Nat → Bool) : Within (marked m 11) := by
  have : ∀ n, n ≤ 11 → ∀ (i : Nat) (x : Int), (marked m n)[i]? = some x → 0 ≤ x ∧ x < n ∧ (0 < i → ∃ y, (marked m n)[i - 1]? = some y ∧ y < x) := by
    intro n
    induction n with
    | zero => intro _ i x hx; simp [marked] at hx
    | succ n ih =>
      intro hn i x hx
      have ih := ih (by omega)
      rw [marked_succ] at hx ⊢
      split at hx
      · rename_i hm
        rw [if_pos hm]
        rcases Nat.lt_or_ge i (marked m n).length with h | h
        · rw [List.getElem?_append_left h] at hx
          obtain ⟨a, b, c⟩ := ih i x hx
          refine ⟨a, by omega, fun hi => ?_⟩
          obtain ⟨y, hy, hyx⟩ := c hi
          exact ⟨y, by rw [List.getElem?_append_left (by omega)]; exact hy, hyx⟩
        · rw [List.getElem?_append_right h] at hx
          have hi0 : i - (marked m n).length = 0 := by
            rcases Nat.eq_zero_or_pos (i - (marked m n).length) with h0 | h0
            · exact h0
            · rw [List.getElem?_eq_none (by simp; omega)] at hx
              cases hx
          rw [hi0] at hx
          simp only [List.getElem?_cons_zero, Option.some.injEq] at hx
          subst hx
          refine ⟨by omega, by omega, fun hi => ?_⟩
          have hlt : i - 1 < (marked m n).length := by omega
          refine ⟨(marked m n)[i - 1], by rw [List.getElem?_append_left hlt]; exact List.getElem?_eq_getElem hlt, ?_⟩
          have := ih (i - 1) _ (List.getElem?_eq_getElem hlt)
          omega
      · rename_i hm
        rw [if_neg hm]
        obtain ⟨a, b, c⟩ := ih i x hx
        exact ⟨a, by omega, c⟩
  intro i x hx
  obtain ⟨a, b, c⟩ := this 11 (by omega) i x hx
  exact ⟨a, by omega, c⟩
theorem within_reads (f : Int) (us : Bool) (x : Ins) : Within (readsV f us x) := by
  unfold readsV
  split
  · unfold callV
    split
    · exact within_of (by decide)
    · split
      · exact within_of (by decide)
      · split <;> exact within_of (by decide)
  · exact within_marked _
theorem within_writes {x : Ins} (f : Int) (h : mayV x = 0) : Within (writesV f x) := by
  have hr := may_range h
  have h1 : ∀ y : Int, 0 ≤ y → y ≤ 10 → Within [y] := fun y a b i x hx => by
    cases i with
    | zero =>
      simp only [List.getElem?_cons_zero, Option.some.injEq] at hx
      subst hx
      exact ⟨a, b, fun h => absurd h (by omega)⟩
    | succ i => simp at hx
  unfold writesV
  split
  · exact h1 _ (by omega) (by omega)
  · split
    · split
      · exact within_of (by decide)
      · split
        · exact h1 _ (by omega) (by omega)
        · exact within_of (by decide)
    · split <;> exact within_of (by decide)
end Go.Sh
