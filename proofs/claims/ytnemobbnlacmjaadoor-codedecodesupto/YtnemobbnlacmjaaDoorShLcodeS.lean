/- Decode's answer as rows of the caller's; rows that are somebody else's. -/
import Derived.Test.YtnemobbnlacmjaaDoorShLcodeR
import Derived.Test.YtnemobbnlacmjaaDoorShLshII
import Derived.Test.YtnemobbnlacmjaaDoorShLlenderB
set_option linter.unusedVariables false
set_option linter.unusedSimpArgs false
namespace Go.Sh
def alo (j : Option Nat) (c : List V) : List (Nat × List V) := match j with
  | none => []
  | some r => [(r, c)]
theorem mem_alo {j : Option Nat} {c : List V} {x : Nat × List V} : x ∈ alo j c ↔ j = some x.1 ∧ x.2 = c := by
  cases j with
  | none => simp [alo]
  | some r =>
    obtain ⟨a, b⟩ := x
    simp only [alo, List.mem_singleton, Prod.mk.injEq, Option.some.injEq]
    exact ⟨fun ⟨h1, h2⟩ => ⟨h1.symm, h2⟩, fun ⟨h1, h2⟩ => ⟨h1.symm, h2⟩⟩
/-- A row that is none of the shelf's. -/
def Ap (lab : Nat → Option Nat) (pv : List (V × List D)) (r : Nat) : Prop := (∀ a, lab a ≠ some r) ∧ ∀ y ∈ pv, foot y.1 ≠ some r
section
variable {SZ : Nat} {s s' : St} {p : Nat} {R : List V} {lab : Nat → Option Nat} {fs : Fs} {pv : List (V × List D)} {al al' : List (Nat × List V)}
theorem Hp.ap (h : Hp SZ s p R lab fs pv al) {x : Nat × List V} (hx : x ∈ al) : Ap lab pv x.1 := (h.al x hx).2
theorem Hp.alset (h : Hp SZ s p R lab fs pv al) (ha : ∀ x ∈ al', s.row x.1 = some x.2 ∧ Ap lab pv x.1) : Hp SZ s p R lab fs pv al' := ⟨h.fl, h.row, h.p0, h.f0, h.lr, h.labs, h.pv, ha⟩
theorem Hp.apNew (h : Hp SZ s p R lab fs pv al) {r : Nat} (hr : s.heap.length ≤ r) : Ap lab pv r := ⟨fun a e => by have := h.labs.lt a r e; omega, fun y hy e => by have := (h.pv y hy).1.lt e; omega⟩
theorem Hp.kp (h : Hp SZ s p R lab fs pv al) {Rr T : Nat → Prop} (k : Kp s s' Rr T) (hR : ∀ i, i < s.heap.length → Rr i → Ap lab pv i) (ha : ∀ x ∈ al', s'.row x.1 = some x.2 ∧ Ap lab pv x.1) : Hp SZ s' p R lab fs pv al' := by
  have hl : ∀ a r, lab a = some r → s'.row r = s.row r := fun a r hr => row_of_heap (k.heap r (h.labs.lt a r hr) fun e => (hR r (h.labs.lt a r hr) e).1 a hr)
  refine ⟨k.floor.trans h.fl, (hl 0 p h.p0).trans h.row, h.p0, h.f0, fun a x hx => (h.lr a x hx).row fun r hr => hl a r hr, h.labs.mono k.hlen, fun x hx => ⟨(h.pv x hx).1.row fun r hr => ?_, (h.pv x hx).2⟩, ha⟩
  have hlt := (h.pv x hx).1.lt hr
  exact row_of_heap (k.heap r hlt fun e => (hR r hlt e).2 x hx hr)
theorem ShI.to {b : Shb} (h : ShI s p b lab fs pv al) (h' : Hp 5 s' p b.R lab fs pv al') : ShI s' p b lab fs pv al' := ⟨h', h.f1, h.f2, h.f4, h.f5, h.ff, h.hh, h.kw, h.none, h.small, h.total⟩
end
section
variable {pr : Prog} (hI : IsaOk pr) (hp : Sub codeFns pr) {st : St}
include hI hp
theorem callW_Decode {v : V} {l : List UInt8} (hv : Lst st 1 v (byteCells l)) (hl : l.length ≤ 1099511627776) {acc : List Ins} {q e : Int} (hd : dcA [] 0 l = (acc, q, e)) : CallW pr 72 [v] st fun r s => ∃ w j c, r = .tup [w, .d (.i .i64 q), .d (.i .i64 e)] ∧ LR s 5 w acc.length (ofDs (acc.map Ins.cells).flatten) j ∧ ((j = none ∧ s = st) ∨ (j = some st.heap.length ∧ s = st.push (.row c))) := by
  obtain ⟨n, nz, hs, hn⟩ := hv.see 0
  have hbl : (byteCells l).length = l.length := by simp [byteCells]
  have hn1 : n = l.length := by omega
  subst hn1
  have hu : SlD 1 (.d (.sl l.length nz (byteCells l))) (l.map byC) := bsl_d nz l
  have hcn := dcCnt_le l
  refine .seen (k := 1) (as := [.d (.sl l.length nz (byteCells l))]) (by simp only [seeA, hs]) (((raw_Decode hI hp hu (by omega) (by omega)).callW (hp.at 2 rfl) rfl).mono ?_)
  rintro r s (⟨acc', h1, rfl, ht⟩ | ⟨k, p, h1, rfl⟩)
  · rw [hd] at h1
    simp only [Prod.mk.injEq] at h1
    obtain ⟨rfl, rfl, rfl⟩ := h1
    have hfl : ((acc.map Ins.cells).flatten).all D.flat = true := List.all_eq_true.2 fun d hd => by obtain ⟨z, rfl⟩ := kindI acc d hd; rfl
    have hlen := map_flat_len insC acc
    rcases Nat.eq_zero_or_pos acc.length with h0 | h0
    · have : acc = [] := List.eq_nil_of_length_eq_zero h0
      subst this
      simp [FreshR, FreshL, FreshV, D.flat, pushO, V.flat]
      exact ⟨none, .nil _ _, [], .inl rfl⟩
    · have hdec : decide (0 < acc.length) = true := by simpa using h0
      rw [hdec]
      simp only [FreshR, FreshL, FreshV, ht, hfl, hlen, true_and]
      refine .inr fun k => ⟨rfl, _, some st.heap.length, _, rfl, ?_, .inr ⟨rfl, rfl⟩⟩
      refine ⟨by rw [ofDs_len, hlen], .inr ⟨st.heap.length, acc.length + k, List.replicate (k * 5) (.d .any), rfl, rfl, by omega, row_push_new rfl, by simp [Nat.add_mul]; omega⟩⟩
  · rw [hd] at h1
    simp only [Prod.mk.injEq] at h1
    obtain ⟨rfl, rfl, rfl⟩ := h1
    simp [FreshR, FreshL, FreshV, D.flat, pushO, V.flat]
    exact ⟨none, .nil _ _, [], .inl rfl⟩
end
end Go.Sh
