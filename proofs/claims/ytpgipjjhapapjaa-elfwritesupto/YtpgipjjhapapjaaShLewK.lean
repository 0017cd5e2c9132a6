/- Elf's laws: the example that every law asks first. -/
import Derived.Test.YtpgipjjhapapjaaShLelf1
import Derived.Test.YtpgipjjhapapjaaShFlaw0
set_option linter.unusedVariables false
set_option linter.unusedSimpArgs false
namespace Go.Sh
def aw9Fns : List (Nat × SFn) := [(12, F12_spindlelaw0_Num), (175, F175_spindlelaw9_awake)]
/-- What Read answers to the example's bytes. -/
structure AwkE (pr : Prog) : Prop where
  r1 : ∀ st, den pr 178 [.d (.sl 3 true [.i .u8 1, .i .u8 2, .i .u8 3])] st = some (.tup [.d (.sl 0 false []), .d (.i .i64 3), .d (.i .i64 90)], st)
  r2 : ∀ st, den pr 178 [bsl true (fileB [sec0])] st = some (.tup [secV [sec0] true, .d (.i .i64 0), .d (.i .i64 0)], st)
section
variable {pr : Prog} (hp : Sub elfFns pr) (hs : Sub strsFns pr) (hq : SubP strsPrims pr) (hr : Sub ref9bFns pr) (hw : Sub aw9Fns pr) (hA : AwkE pr) {st : St}
include hw
theorem den_num9a (x : Int) : den pr 12 [.d (.i .i64 x)] st = some (.d (.i .i64 x), st) := den_shut (hw.at 0 rfl) rfl rfl (by simp; rfl) (by simp [F12_spindlelaw0_Num])
include hp hs hq hr hA
theorem callW_awake9a : CallW pr 175 [] st fun r s => s = st ∧ r = .d (.b true) := by
  refine .run0 (fun f => f == 177) (hw.at 1 rfl) (as := []) rfl rfl rfl (codeC_of ?_)
  have n := fun st x => den_num9a hw (st := st) x
  have r1 := hA.r1
  have pl : ∀ st, den pr 184 [.d (.s [46, 116, 101, 120, 116]), .d (.sl 3 true [.i .u8 1, .i .u8 2, .i .u8 3])] st = some (.agg (ofDs sec0.cells), st) := fun st => den_plainb hr (st := st) [46, 116, 101, 120, 116] [1, 2, 3] true (bsl true [1, 2, 3]) rfl
  simp only [sec0, Sec.cells, ofDs, List.map_cons, List.map_nil, byteCells, List.length_cons, List.length_nil] at pl
  simp at pl
  simp [F175_spindlelaw9_awake, fillV, lay, reps, ofDs, toDs, toD, r1, n, pl]
  refine (callW_Write hp hs hq (m := 1) (ss := [sec0]) (u := secV [sec0] true) rfl ⟨sec_els _, true, rfl⟩ (by decide) (by decide) sec0_sin).mono ?_
  rintro r s ⟨rfl, ⟨hg, rfl⟩ | ⟨hg, rfl⟩⟩
  rotate_left
  · exact absurd sec0_good hg
  obtain ⟨L, hL⟩ : ∃ L, L = fileB [sec0] := ⟨_, rfl⟩
  obtain ⟨a1, a2, a3⟩ := sec0_at
  have hl := sec0_file
  have rd := hA.r2
  obtain ⟨x, hx0⟩ : ∃ x, x = sec0 := ⟨_, rfl⟩
  have x2 : x.key = sec0.key := by rw [hx0]
  rw [← hL] at a1 a2 a3 hl rd ⊢
  rw [← hx0] at rd
  obtain ⟨i1, l1⟩ := bsl_iaddr (nz := true) a1 (k := .i64)
  obtain ⟨i2, l2⟩ := bsl_iaddr (nz := true) a2 (k := .i64)
  obtain ⟨i3, l3⟩ := bsl_iaddr (nz := true) a3 (k := .i64)
  have hd : SlD 8 (secV [x] true) ([x].map Sec.cells) := ⟨sec_els _, true, rfl⟩
  have hia := hd.iaddr (i := (0 : Int)) (k := .i64) (by decide) (by simp)
  have hld : ∀ s, loadV 8 true s (elP 8 (secV [x] true) 0 0) = some (.agg (ofDs x.cells)) := fun s => by
    rw [hd.load (el := x.cells) rfl (by omega) (by omega)]
    rfl
  have sm := fun st => den_Same9b hr (st := st) x sec0
  rw [decide_eq_true x2] at sm
  have i1' : iaddrV 1 (bsl true L) (.d (.i .i64 66)) = some (.ep ((byteCells L).drop 66)) := i1
  have i2' : iaddrV 1 (bsl true L) (.d (.i .i64 72)) = some (.ep ((byteCells L).drop 72)) := i2
  have i3' : iaddrV 1 (bsl true L) (.d (.i .i64 73)) = some (.ep ((byteCells L).drop 73)) := i3
  have l1' : ∀ s, loadV 1 false s (.ep ((byteCells L).drop 66)) = some (.d (.i .u8 3)) := l1
  have l2' : ∀ s, loadV 1 false s (.ep ((byteCells L).drop 72)) = some (.d (.i .u8 0)) := l2
  have l3' : ∀ s, loadV 1 false s (.ep ((byteCells L).drop 73)) = some (.d (.i .u8 46)) := l3
  have hia' : iaddrV 8 (secV [x] true) (.d (.i .i64 0)) = some (elP 8 (secV [x] true) 0 0) := hia
  have hlv : lenV (secV [x] true) = some 1 := rfl
  have hlb : lenV (bsl true L) = some 288 := by rw [← hl]; rfl
  obtain ⟨X, hX⟩ : ∃ X, X = ofDs x.cells := ⟨_, rfl⟩
  rw [← hX] at hld sm
  simp only [sec0, Sec.cells, ofDs, List.map_cons, List.map_nil, byteCells, List.length_cons, List.length_nil] at sm
  simp at sm
  generalize bsl true L = bv at i1' i2' i3' rd hlb ⊢
  generalize secV [x] true = sv at hia' hld hlv rd ⊢
  simp [n, i1', i2', i3', l1', l2', l3', hlb, rd, hlv, hia', hld, pl, sm, fillV, lay, reps, ofDs, toDs, toD]
end
end Go.Sh
