/- What may be has numbers that fit in its bytes. -/
import Derived.Test.YtidigkielipghaaDoorShLisaMay
set_option linter.unusedVariables false
set_option linter.unusedSimpArgs false
namespace Go.Sh
/-- Classes: how the wide one is told. -/
theorem wide_cls : ∀ op : Nat, op < 256 → (match clsAt op with | some c => (c.d.wide == decide (op = 24)) | none => true) = true := by decide +kernel
theorem cls_ok : ∀ c ∈ classes, (c.d.off = true ∨ ∀ o ∈ c.d.offs, 0 ≤ o ∧ o ≤ 32) ∧ (c.d.imm = true ∨ ∀ o ∈ c.d.imms, 0 ≤ o ∧ o ≤ 255) := by decide +kernel
/-- What may be has numbers that fit in its bytes. -/
theorem may_range {x : Ins} (h : mayV x = 0) : 0 ≤ x.op ∧ x.op ≤ 255 ∧ 0 ≤ x.dst ∧ x.dst ≤ 10 ∧ 0 ≤ x.src ∧ x.src ≤ 10 ∧ -32768 ≤ x.off ∧ x.off ≤ 32767 ∧ (x.op = 24 ∨ -2147483648 ≤ x.imm ∧ x.imm ≤ 2147483647) := by
  unfold mayV at h
  split at h
  · rename_i hop
    obtain ⟨op, hop'⟩ : ∃ op : Nat, x.op = op := ⟨x.op.toNat, by omega⟩
    rw [hop', Int.toNat_natCast] at h
    have hw := wide_cls op (by omega)
    split at h
    · rename_i c hc
      rw [hc] at hw
      obtain ⟨k, hk, hck⟩ := Option.bind_eq_some_iff.1 hc
      have hcm := cls_ok c (List.mem_of_getElem? hck)
      split at h
      · omega
      · split at h
        · rename_i hm
          simp only [beq_iff_eq] at hw
          simp only [OpD.may, Bool.and_eq_true, hw] at hm
          obtain ⟨⟨⟨⟨m1, m2⟩, m3⟩, m4⟩, m5⟩ := hm
          obtain ⟨c1, c2⟩ := hcm
          have r1 : 0 ≤ x.dst ∧ x.dst ≤ 10 := by
            split at m1
            · simpa using m1
            · have := of_decide_eq_true m1
              omega
          have r2 : 0 ≤ x.src ∧ x.src ≤ 10 := by
            split at m3
            · have := of_decide_eq_true m3
              omega
            · rename_i hn
              split at m3
              · rename_i hs
                rw [if_pos hs] at m2
                simpa using m2
              · have := of_decide_eq_true m3
                omega
          have r3 : -32768 ≤ x.off ∧ x.off ≤ 32767 := by
            split at m4
            · have := of_decide_eq_true m4
              omega
            · rename_i ho
              rcases c1 with c1 | c1
              · exact absurd c1 ho
              · have := c1 _ (of_decide_eq_true m4)
                omega
          have r4 : x.op = 24 ∨ -2147483648 ≤ x.imm ∧ x.imm ≤ 2147483647 := by
            split at m5
            · simp only [Bool.or_eq_true, Bool.and_eq_true, decide_eq_true_eq] at m5
              omega
            · rename_i ho
              rcases c2 with c2 | c2
              · exact absurd c2 ho
              · have := c2 _ (of_decide_eq_true m5)
                omega
          omega
        · omega
    · omega
  · omega
end Go.Sh
