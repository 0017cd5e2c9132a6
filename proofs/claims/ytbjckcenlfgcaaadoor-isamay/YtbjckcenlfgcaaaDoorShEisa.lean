/- A program that has the functions and tables of the package isa: its May. -/
import Derived.Test.YtbjckcenlfgcaaaDoorShEisaA
import Derived.Test.YtbjckcenlfgcaaaDoorShEisaB
set_option linter.unusedVariables false
namespace Go.Sh
theorem chk_isa : ∀ op : Nat, op < 256 → chkOp prIsa op = true := by
  intro op hop
  have h : ∀ k, (List.range' (32 * k) 32).all (chkOp prIsa) = true → 32 * k ≤ op → op < 32 * k + 32 → chkOp prIsa op = true := fun k h h1 h2 => List.all_eq_true.1 h op (by rw [List.mem_range']; exact ⟨op - 32 * k, by omega, by omega⟩)
  have : op / 32 < 8 := by omega
  rcases (by omega : op / 32 = 0 ∨ op / 32 = 1 ∨ op / 32 = 2 ∨ op / 32 = 3 ∨ op / 32 = 4 ∨ op / 32 = 5 ∨ op / 32 = 6 ∨ op / 32 = 7) with h0 | h0 | h0 | h0 | h0 | h0 | h0 | h0
  · exact h 0 chk0 (by omega) (by omega)
  · exact h 1 chk1 (by omega) (by omega)
  · exact h 2 chk2 (by omega) (by omega)
  · exact h 3 chk3 (by omega) (by omega)
  · exact h 4 chk4 (by omega) (by omega)
  · exact h 5 chk5 (by omega) (by omega)
  · exact h 6 chk6 (by omega) (by omega)
  · exact h 7 chk7 (by omega) (by omega)
theorem chkOp_ext {P P' : Prog} (hE : Ext P P') {op : Nat} (h : chkOp P op = true) : chkOp P' op = true := by
  unfold chkOp at h ⊢
  split at h
  · simp only [Bool.and_eq_true] at h ⊢
    obtain ⟨⟨⟨⟨⟨⟨h1, h2⟩, h3⟩, h4⟩, h5⟩, h6⟩, h7⟩ := h
    exact ⟨⟨⟨⟨⟨⟨runD_ext hE h1, runV_ext hE h2⟩, runV_ext hE h3⟩, h4⟩, h5⟩, h6⟩, h7⟩
  · cases h
theorem isaOk {pr : Prog} (h1 : Sub mayFns pr) (h2 : Sub evFns pr) (hg : ∀ n c, tabs n = some c → pr.glob n = some c) : IsaOk pr where
  p := h1
  q := fun x hx => h2 x (by
    simp only [outFns, List.mem_cons, List.not_mem_nil, or_false] at hx
    rcases hx with rfl | rfl | rfl <;> simp [evFns])
  g := hg 4 _ rfl
  c := fun op hop => chkOp_ext (ext_of h2 hg) (chk_isa op hop)
end Go.Sh
