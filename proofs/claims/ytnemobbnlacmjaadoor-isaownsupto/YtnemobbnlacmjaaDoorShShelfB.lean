/- Shelves: what they share with lists of symbols; rows that are somebody else's. -/
import Derived.Test.YtnemobbnlacmjaaDoorShShelf
import Derived.Test.YtnemobbnlacmjaaDoorShLstrs1
set_option linter.unusedVariables false
set_option linter.unusedSimpArgs false
namespace Go.Sh
def KI (d : D) : Prop := ∃ z, d = .i .i64 z
theorem upd_comm {f : Nat → Option Nat} {a b : Nat} {x y : Option Nat} (h : a ≠ b) : upd (upd f a x) b y = upd (upd f b y) a x := by
  funext c
  by_cases h1 : c = a <;> by_cases h2 : c = b <;> simp [upd, h1, h2, h, Ne.symm h]
theorem updF_comm {α : Type} {f : Nat → α} {a b : Nat} {x y : α} (h : a ≠ b) : updF (updF f a x) b y = updF (updF f b y) a x := by
  funext c
  by_cases h1 : c = a <;> by_cases h2 : c = b <;> simp [updF, h1, h2, h, Ne.symm h]
theorem aggOk (X : List D) : V.ok1 (.agg (ofDs X)) = true := by
  simp [V.ok1, ofDs]
theorem get_app {α : Type} {l : List α} {i : Nat} {x y : α} (h : l[i]? = some x) : (l ++ [y])[i]? = some x := by
  rw [List.getElem?_append_left (List.getElem?_eq_some_iff.1 h).1]
  exact h
theorem get_last {α : Type} {l : List α} {n : Nat} {y : α} (h : n = l.length) : (l ++ [y])[n]? = some y := by
  subst h
  rw [List.getElem?_append_right (Nat.le_refl _), Nat.sub_self]
  rfl
theorem get_app_lt {α : Type} {l : List α} {i : Nat} {x y : α} (h : (l ++ [y])[i]? = some x) (hi : i < l.length) : l[i]? = some x := by
  rwa [List.getElem?_append_left hi] at h
/-- Two lists that hold the same, and stay. -/
def Pr2 (pv : List (V × List D)) (k w : V) : Prop := ∃ L, (k, L) ∈ pv ∧ (w, L) ∈ pv ∧ (∀ d ∈ L, KI d) ∧ L.length ≤ 54975581388800
theorem Pr2.mono {pv pv' : List (V × List D)} {k w : V} (h : Pr2 pv k w) (hs : ∀ x ∈ pv, x ∈ pv') : Pr2 pv' k w := by
  obtain ⟨L, h1, h2, h3⟩ := h
  exact ⟨L, hs _ h1, hs _ h2, h3⟩
theorem upd_off {f : Nat → Option Nat} {a : Nat} (h : f a = none) : upd f a none = f := by rw [← h, upd_self]
theorem updF_off {α : Type} {f : Nat → α} {a : Nat} {x : α} (h : f a = x) : updF f a x = f := by rw [← h, updF_self]
theorem u8_ofB (z : Int) : ∃ y : UInt8, IntKind.wrap .u8 z = y.toNat := by
  have h : 0 ≤ IntKind.wrap .u8 z ∧ IntKind.wrap .u8 z < 256 := by
    simp only [IntKind.wrap, IntKind.bits, IntKind.signed]
    exact ⟨Int.emod_nonneg _ (by decide), Int.emod_lt_of_pos _ (by decide)⟩
  refine ⟨UInt8.ofNat (IntKind.wrap .u8 z).toNat, ?_⟩
  rw [UInt8.toNat_ofNat']
  omega
def alo (j : Option Nat) (c : List V) : List (Nat × List V) := match j with
  | none => []
  | some r => [(r, c)]
theorem mem_alo {j : Option Nat} {c : List V} {x : Nat × List V} : x ∈ alo j c ↔ j = some x.1 ∧ x.2 = c := by
  cases j with
  | none => simp [alo]
  | some r =>
    obtain ⟨a, b⟩ := x
    simp only [alo, List.mem_singleton, Prod.mk.injEq, Option.some.injEq]
    exact ⟨fun ⟨h1, h2⟩ => ⟨h1.symm, h2⟩, fun ⟨h1, h2⟩ => ⟨h1.symm, h2⟩⟩
/-- A row that is none of the shelf's. -/
def Ap (lab : Nat → Option Nat) (pv : List (V × List D)) (r : Nat) : Prop := (∀ a, lab a ≠ some r) ∧ ∀ y ∈ pv, foot y.1 ≠ some r
section
variable {SZ : Nat} {s s' : St} {p : Nat} {R : List V} {lab : Nat → Option Nat} {fs : Fs} {pv : List (V × List D)} {al al' : List (Nat × List V)}
theorem Hp.ap (h : Hp SZ s p R lab fs pv al) {x : Nat × List V} (hx : x ∈ al) : Ap lab pv x.1 := (h.al x hx).2
theorem Hp.alset (h : Hp SZ s p R lab fs pv al) (ha : ∀ x ∈ al', s.row x.1 = some x.2 ∧ Ap lab pv x.1) : Hp SZ s p R lab fs pv al' := ⟨h.fl, h.row, h.p0, h.f0, h.lr, h.labs, h.pv, ha⟩
theorem Hp.apNew (h : Hp SZ s p R lab fs pv al) {r : Nat} (hr : s.heap.length ≤ r) : Ap lab pv r := ⟨fun a e => by have := h.labs.lt a r e; omega, fun y hy e => by have := (h.pv y hy).1.lt e; omega⟩
theorem Hp.kp (h : Hp SZ s p R lab fs pv al) {Rr T : Nat → Prop} (k : Kp s s' Rr T) (hR : ∀ i, i < s.heap.length → Rr i → Ap lab pv i) (ha : ∀ x ∈ al', s'.row x.1 = some x.2 ∧ Ap lab pv x.1) : Hp SZ s' p R lab fs pv al' := by
  have hl : ∀ a r, lab a = some r → s'.row r = s.row r := fun a r hr => row_of_heap (k.heap r (h.labs.lt a r hr) fun e => (hR r (h.labs.lt a r hr) e).1 a hr)
  refine ⟨k.floor.trans h.fl, (hl 0 p h.p0).trans h.row, h.p0, h.f0, fun a x hx => (h.lr a x hx).row fun r hr => hl a r hr, h.labs.mono k.hlen, fun x hx => ⟨(h.pv x hx).1.row fun r hr => ?_, (h.pv x hx).2⟩, ha⟩
  have hlt := (h.pv x hx).1.lt hr
  exact row_of_heap (k.heap r hlt fun e => (hR r hlt e).2 x hx hr)
end
end Go.Sh
