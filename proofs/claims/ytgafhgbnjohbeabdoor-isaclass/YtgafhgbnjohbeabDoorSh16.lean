/- Regions: in the order of the text, and in whatever order is drawn. -/
import Derived.Test.YtgafhgbnjohbeabDoorSh15
import Derived.Orders
set_option linter.unusedVariables false
set_option linter.unusedSimpArgs false
namespace Go.Sh
open Go.RowKit

def okOper (P : Program) (L : Link) (n : Nat) (o : Oper) (s : SOper) : Bool := decide (o.dst = s.dst) && decide (o.guard = s.guard) && (match s.dst with | some d => decide (d < n) | none => true) && okOp P L o.op s.op
def okOpers (P : Program) (L : Link) (n : Nat) : List Oper → List SOper → Bool
  | [], [] => true
  | o :: os, s :: ss => okOper P L n o s && okOpers P L n os ss
  | _, _ => false
theorem okOpers_get {P : Program} {L : Link} {n : Nat} : ∀ {os : List Oper} {ss : List SOper}, okOpers P L n os ss = true → os.length = ss.length ∧ ∀ (i : Nat) o s, os[i]? = some o → ss[i]? = some s → okOper P L n o s = true
  | [], [], _ => ⟨rfl, fun i o s h => by simp at h⟩
  | o :: os, s :: ss, h => by
    simp only [okOpers, Bool.and_eq_true] at h
    obtain ⟨h1, h2⟩ := okOpers_get h.2
    refine ⟨by simp [h1], fun i o' s' ho hs => ?_⟩
    cases i with
    | zero =>
      simp only [List.getElem?_cons_zero, Option.some.injEq] at ho hs
      subst ho
      subst hs
      exact h.1
    | succ i => exact h2 i o' s' (by simpa using ho) (by simpa using hs)
  | [], _ :: _, h => by simp [okOpers] at h
  | _ :: _, [], h => by simp [okOpers] at h
theorem okOper_spec {P : Program} {L : Link} {n : Nat} {o : Oper} {s : SOper} (h : okOper P L n o s = true) : o.dst = s.dst ∧ o.guard = s.guard ∧ (∀ d, s.dst = some d → d < n) ∧ okOp P L o.op s.op = true := by
  simp only [okOper, Bool.and_eq_true, decide_eq_true_eq] at h
  obtain ⟨⟨⟨h1, h2⟩, h3⟩, h4⟩ := h
  refine ⟨h1, h2, fun d hd => ?_, h4⟩
  rw [hd] at h3
  simpa using h3
section
variable {P : Program} {Pr : Prog} {κ : K} {st st' : St} {a : Act} {x : V} {e : Env} {n : Nat}

theorem put_size (a : Act) (d : Option Tmp) (v : Value) : (a.put d v).tmps.size = a.tmps.size := by
  cases d <;> simp [Act.put]
theorem put_defs (a : Act) (d : Option Tmp) (v : Value) : (a.put d v).defers = a.defers := by
  cases d <;> rfl
theorem erel_put {v : Value} (hE : ERel κ e a) (hx : Rep κ x v) {d : Option Nat} (hd : ∀ j, d = some j → j < a.tmps.size) : ERel κ (put e d x) (a.put d v) := by
  cases d with
  | none => exact hE
  | some j =>
    intro i u hi
    simp only [put, Env.get] at hi
    rw [put_size]
    split at hi
    · rename_i hj
      subst hj
      simp only [Option.some.injEq] at hi
      subst hi
      refine ⟨hd j rfl, ?_⟩
      have := hd j rfl
      simpa [Act.put, Array.getElem?_setIfInBounds, this] using hx
    · rename_i hne
      obtain ⟨h1, h2⟩ := hE i u hi
      refine ⟨h1, ?_⟩
      have : (a.tmps.setIfInBounds j v)[i]? = a.tmps[i]? := Array.getElem?_setIfInBounds_ne hne
      simpa [Act.put, Array.getD_eq_getD_getElem?, this] using h2
/-- A guard, as the machine reads it. -/
theorem wanted_sound {ops : Array Oper} {ss : List SOper} (hok : okOpers P κ.L n ops.toList ss = true) (hE : ERel κ e a) {o : Oper} {s : SOper} (hg : o.guard = s.guard) {b : Bool} (h : wants ss e s.guard = some b) : Region.wanted o (yielded ops a.tmps) = b := by
  unfold wants at h
  unfold Region.wanted
  rw [hg]
  split at h
  · rename_i hq
    rw [hq]
    simp only [Option.some.injEq] at h
    exact h
  · rename_i j want hq
    rw [hq]
    simp only
    split at h
    case h_2 => cases h
    rename_i sj hsj
    split at h
    case h_2 => cases h
    rename_i d hd
    obtain ⟨hlen, hall⟩ := okOpers_get hok
    have hjlt := (List.getElem?_eq_some_iff.1 hsj).1
    obtain ⟨oj, hoj⟩ : ∃ oj, ops.toList[j]? = some oj := ⟨ops.toList[j]'(by omega), List.getElem?_eq_getElem (by omega)⟩
    obtain ⟨h1, _⟩ := okOper_spec (hall j oj sj hoj hsj)
    have hoj' : ops[j]? = some oj := by simpa using hoj
    have hy : ∀ (u : Value), d < a.tmps.size → a.tmps.getD d undef = u → yielded ops a.tmps j = match u with | .bool b => some b | _ => none := by
      intro u hlt hu
      have : a.tmps[d]? = some u := by
        rw [Array.getElem?_eq_getElem hlt]
        rw [← hu]
        simp [hlt]
      unfold yielded
      simp only [hoj', Option.bind_some, h1, hd, this]
      cases u <;> rfl
    split at h
    · rename_i y hy'
      simp only [Option.some.injEq] at h
      obtain ⟨k1, k2⟩ := hE d _ hy'
      rw [rep_b] at k2
      rw [hy _ k1 k2]
      simpa using h
    · rename_i hy'
      simp only [Option.some.injEq] at h
      obtain ⟨k1, k2⟩ := hE d _ hy'
      have k2 : a.tmps.getD d undef = undef := k2
      rw [hy _ k1 k2]
      subst h
      rfl
    · cases h

/-! ### In the order of the text -/
theorem list_sound {call : CallF} {L : Link} (hcall : CallOk P Pr L call) {ops : Array Oper} {ss : List SOper} (hok : okOpers P L n ops.toList ss = true) {Q : Exit → Act → World → Prop} :
    ∀ {l : List Oper} {r : List SOper} {κ : K} {e e' : Env} {st st' : St} {a : Act}, κ.L = L → okOpers P L n l r = true → Inv Pr κ st → ERel κ e a → a.tmps.size = n → opsS Pr call ss r e st = some (e', st') →
      (∀ κ' a', κ.le κ' → Inv Pr κ' st' → ERel κ' e' a' → a'.tmps.size = n → a'.defers = a.defers → Q .normal a' κ'.w) → wpList P ops Q l a κ.w
  | [], [], κ, e, e', st, st', a, hL, _, hi, hE, hn, h, hQ => by
    simp only [opsS, Option.some.injEq, Prod.mk.injEq] at h
    obtain ⟨rfl, rfl⟩ := h
    exact hQ κ a (K.le.refl _) hi hE hn rfl
  | o :: l, s :: r, κ, e, e', st, st', a, hL, hlr, hi, hE, hn, h, hQ => by
    simp only [okOpers, Bool.and_eq_true] at hlr
    obtain ⟨h1, h2, h3, h4⟩ := okOper_spec hlr.1
    simp only [opsS] at h
    split at h
    · rename_i hw
      split at h
      · rename_i v s1 ho
        have hwant := wanted_sound (κ := κ) (hL ▸ hok) hE h2 hw
        unfold wpList
        rw [if_pos hwant]
        refine .inl (op_sound (hL ▸ hcall) hi hE (hL ▸ h4) ho ?_)
        intro κ' u k1 k2 k3
        refine list_sound hcall hok (k1.L.trans hL) hlr.2 k2 ?_ (by rw [put_size]; exact hn) h (fun κ2 a2 m1 m2 m3 m4 m5 => hQ κ2 a2 (k1.trans m1) m2 m3 m4 (m5.trans (put_defs _ _ _)))
        rw [h1]
        exact erel_put (hE.mono k1) k3 (fun j hj => by rw [hn]; exact h3 j hj)
      · cases h
    · rename_i hw
      have hwant := wanted_sound (κ := κ) (hL ▸ hok) hE h2 hw
      unfold wpList
      rw [hwant]
      simp only [Bool.false_eq_true, if_false]
      refine list_sound hcall hok hL hlr.2 hi ?_ (by rw [put_size]; exact hn) h (fun κ2 a2 m1 m2 m3 m4 m5 => hQ κ2 a2 m1 m2 m3 m4 (m5.trans (put_defs _ _ _)))
      rw [h1]
      exact erel_put (x := .un) hE rfl (fun j hj => by rw [hn]; exact h3 j hj)
    · cases h
  | [], _ :: _, _, _, _, _, _, _, _, h, _, _, _, _, _ => by simp [okOpers] at h
  | _ :: _, [], _, _, _, _, _, _, _, h, _, _, _, _, _ => by simp [okOpers] at h
end
end Go.Sh
