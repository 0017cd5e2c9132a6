/- Operations on values alone: the machine's operation gives what the shadow's gives. -/
import Derived.Test.YtgafhgbnjohbeabDoorSh1
import Derived.Laws.StructEq
import Derived.Laws.Slices
import Derived.Laws.BitsLemmas
import Derived.WideLaws
set_option linter.unusedVariables false
set_option linter.unusedSimpArgs false
namespace Go.Sh
open Go.RowKit

/-! ### Constants and operands -/
theorem repD_i {L : Link} {I : Imm} {k : IntKind} {n : Int} {v : Value} : RepD L I (.i k n) v ↔ v = .int k n := by simp only [RepD]
theorem repD_b {L : Link} {I : Imm} {b : Bool} {v : Value} : RepD L I (.b b) v ↔ v = .bool b := by simp only [RepD]
theorem repD_s {L : Link} {I : Imm} {l : List UInt8} {v : Value} : RepD L I (.s l) v ↔ v = .string ⟨l.toArray⟩ := by simp only [RepD]
def okD : Value → D → Bool
  | .int k n, .i k' m => k == k' && n == m
  | .bool b, .b c => b == c
  | .string s, .s l => s.data.toList == l
  | .slice none 0 0, .sl 0 false [] => true
  | .pointer none, .np => true
  | .map none, .nm => true
  | .nilIface, .ni => true
  | .nilFunc, .nf => true
  | _, _ => false
def okDs : List Value → List D → Bool
  | [], [] => true
  | v :: vs, d :: ds => okD v d && okDs vs ds
  | _, _ => false
theorem okD_rep {L : Link} {I : Imm} {v : Value} {d : D} (h : okD v d = true) : RepD L I d v := by
  unfold okD at h
  split at h
  · simp only [Bool.and_eq_true, beq_iff_eq] at h
    obtain ⟨rfl, rfl⟩ := h
    exact repD_i.2 rfl
  · simp only [beq_iff_eq] at h
    subst h
    exact repD_b.2 rfl
  · simp only [beq_iff_eq] at h
    subst h
    exact repD_s.2 rfl
  · simp only [RepD]
    exact ⟨none, 0, rfl, Nat.le_refl _, rfl, fun _ => rfl, .inl trivial⟩
  · simp only [RepD]
  · simp only [RepD]
  · simp only [RepD]
  · simp only [RepD]
  · cases h
theorem okDs_rep {L : Link} {I : Imm} : ∀ {vs : List Value} {ds : List D}, okDs vs ds = true → All2 (RepD L I) ds vs
  | [], [], _ => .nil
  | v :: vs, d :: ds, h => by
    simp only [okDs, Bool.and_eq_true] at h
    exact .cons (okD_rep h.1) (okDs_rep h.2)
  | [], d :: ds, h => by simp [okDs] at h
  | v :: vs, [], h => by simp [okDs] at h
def okV : Value → V → Bool
  | .agg l, .agg cs => match toDs cs with
    | some ds => okDs l.toList ds
    | none => false
  | v, .d x => okD v x
  | _, _ => false
theorem toDs_ofDs : ∀ {cs : List V} {ds : List D}, toDs cs = some ds → (∀ x ∈ cs, ∃ d, x = .d d) → cs = ds.map .d
  | [], ds, h, _ => by
    simp only [toDs, Option.some.injEq] at h
    subst h
    rfl
  | x :: xs, ds, h, ha => by
    obtain ⟨d, rfl⟩ := ha x List.mem_cons_self
    simp only [toDs, toD] at h
    split at h
    · rename_i r hr
      simp only [Option.some.injEq] at h
      subst h
      rw [toDs_ofDs hr fun y hy => ha y (List.mem_cons_of_mem _ hy)]
      rfl
    · cases h
def allD : List V → Bool
  | [] => true
  | .d _ :: r => allD r
  | _ => false
theorem allD_spec : ∀ {cs : List V}, allD cs = true → ∀ x ∈ cs, ∃ d, x = V.d d
  | [], _, x, hx => by cases hx
  | y :: r, h, x, hx => by
    cases y <;> simp only [allD] at h <;> try cases h
    rename_i d
    cases hx with
    | head => exact ⟨d, rfl⟩
    | tail _ hx => exact allD_spec h x hx
def okO (L : Link) : Operand → Opd → Bool
  | .tmp t, .t n => t == n
  | .const v, .c x => okV v x && (match x with | .agg cs => allD cs | _ => true)
  | .global g, .g n => g == L.gl n
  | _, _ => false
theorem all2_map {α β γ : Type} {R : α → β → Prop} {f : γ → α} {S : γ → β → Prop} (hs : ∀ x y, S x y → R (f x) y) {xs : List γ} {ys : List β} (h : All2 S xs ys) : All2 R (xs.map f) ys := by
  induction h with
  | nil => exact .nil
  | cons h _ ih => exact .cons (hs _ _ h) ih
theorem opd_sound {P : Prog} {κ : K} {st : St} {e : Env} {a : Act} (hi : Inv P κ st) (hE : ERel κ e a) {x : Operand} {y : Opd} (hok : okO κ.L x y = true) {v : V} (hv : y.ev P e = some v) : Rep κ v (a.eval x) := by
  unfold okO at hok
  split at hok
  · simp only [beq_iff_eq] at hok
    subst hok
    exact (hE _ _ hv).2
  · simp only [Opd.ev, Option.some.injEq] at hv
    subst hv
    simp only [Bool.and_eq_true] at hok
    obtain ⟨hok, hall⟩ := hok
    unfold okV at hok
    split at hok
    · split at hok
      · rename_i ds hds
        simp only at hall
        refine ⟨_, rfl, ?_⟩
        rw [toDs_ofDs hds (allD_spec hall)]
        exact all2_map (f := V.d) (S := RepD κ.L κ.imm) (fun _ _ h => h) (okDs_rep hok)
      · cases hok
    · exact okD_rep hok
    · cases hok
  · simp only [beq_iff_eq] at hok
    subst hok
    simp only [Opd.ev, Option.map_eq_some_iff] at hv
    obtain ⟨cs, hg, rfl⟩ := hv
    exact ⟨_, rfl, .inr ⟨_, _, rfl, hi.globs _ _ hg⟩⟩
  · cases hok

section
variable {P : Program} {κ : K} {w : World}

theorem rep_i {k : IntKind} {n : Int} {v : Value} : Rep κ (.d (.i k n)) v ↔ v = .int k n := by simp [Rep, Rep1, RepC, RepD]
theorem rep_b {b : Bool} {v : Value} : Rep κ (.d (.b b)) v ↔ v = .bool b := by simp [Rep, Rep1, RepC, RepD]
theorem rep_s {l : List UInt8} {v : Value} : Rep κ (.d (.s l)) v ↔ v = .string ⟨l.toArray⟩ := by simp [Rep, Rep1, RepC, RepD]

/-! ### Integers, strings, bools -/
theorem eqGuard_int {op : BinOp} {t : TypeId} {x y : Operand} {k k' : IntKind} {a b : Int} : (eqGuard op t x y (.int k a) (.int k' b)).run P w = .ok () w := by
  unfold eqGuard
  cases op <;> simp
theorem eqGuard_str {op : BinOp} {t : TypeId} {x y : Operand} {a b : ByteArray} : (eqGuard op t x y (.string a) (.string b)).run P w = .ok () w := by
  unfold eqGuard
  cases op <;> simp
theorem eqGuard_bool {op : BinOp} {t : TypeId} {x y : Operand} {a b : Bool} : (eqGuard op t x y (.bool a) (.bool b)).run P w = .ok () w := by
  unfold eqGuard
  cases op <;> simp

theorem toList_mk (l : List UInt8) : (⟨l.toArray⟩ : ByteArray).toList = l := by
  rw [ByteArray.toList_eq]
theorem strLess_eq : ∀ (x y : List UInt8), strLess x y = Op.bytesLess x y
  | [], [] => rfl
  | [], _ :: _ => rfl
  | _ :: _, [] => rfl
  | a :: x, b :: y => by simp only [strLess, Op.bytesLess, strLess_eq x y]
theorem size_mk (l : List UInt8) : (⟨l.toArray⟩ : ByteArray).size = l.length := rfl
theorem append_mk (x y : List UInt8) : (⟨x.toArray⟩ : ByteArray) ++ (⟨y.toArray⟩ : ByteArray) = ⟨(x ++ y).toArray⟩ := by
  apply ByteArray.ext
  simp

theorem bitI_sound {op : BinOp} {k : IntKind} {a b : Int} {d : D} (h : bitI op k a b = some d) : ∃ n, d = .i k n ∧ (Op.intBits op k a b).run P w = .ok (.int k n) w := by
  unfold bitI at h
  unfold Op.intBits
  cases op <;> simp only [Option.some.injEq] at h <;> first | (subst h; exact ⟨_, rfl, rfl⟩) | (cases h)
theorem arI_sound {op : BinOp} {k : IntKind} {a b : Int} {d : D} (t : TypeId) (h : arI op k a b = some d) : ∃ v, (binOp op t (.int k a) (.int k b)).run P w = .ok v w ∧ RepD κ.L κ.imm d v := by
  unfold arI at h
  split at h
  case h_4 =>
    split at h
    · cases h
    · rename_i hb
      simp only [Option.some.injEq] at h
      subst h
      exact ⟨_, by simp [binOp, Op.intDiv, hb], repD_i.2 rfl⟩
  case h_5 =>
    split at h
    · cases h
    · rename_i hb
      simp only [Option.some.injEq] at h
      subst h
      exact ⟨_, by simp [binOp, Op.intDiv, hb], repD_i.2 rfl⟩
  case h_6 =>
    obtain ⟨n, rfl, hr⟩ := bitI_sound (P := P) (w := w) h
    exact ⟨_, by simpa [binOp] using hr, repD_i.2 rfl⟩
  case h_7 =>
    obtain ⟨n, rfl, hr⟩ := bitI_sound (P := P) (w := w) h
    exact ⟨_, by simpa [binOp] using hr, repD_i.2 rfl⟩
  case h_8 =>
    obtain ⟨n, rfl, hr⟩ := bitI_sound (P := P) (w := w) h
    exact ⟨_, by simpa [binOp] using hr, repD_i.2 rfl⟩
  case h_9 =>
    obtain ⟨n, rfl, hr⟩ := bitI_sound (P := P) (w := w) h
    exact ⟨_, by simpa [binOp] using hr, repD_i.2 rfl⟩
  all_goals first
    | (cases h; done)
    | (simp only [Option.some.injEq] at h; subst h; first | exact ⟨_, by simp [binOp, Op.intArith, Op.intCmp], repD_i.2 rfl⟩ | exact ⟨_, by simp [binOp, Op.intArith, Op.intCmp], repD_b.2 rfl⟩)
theorem shI_sound {op : BinOp} {k k' : IntKind} {a b : Int} {d : D} (t : TypeId) (h : shI op k a b = some d) : ∃ v, (binOp op t (.int k a) (.int k' b)).run P w = .ok v w ∧ RepD κ.L κ.imm d v := by
  unfold shI at h
  split at h
  · cases h
  · rename_i hb
    cases op <;> simp only [Option.some.injEq] at h <;> first
      | (cases h; done)
      | (subst h; exact ⟨_, by simp [binOp, Op.shift, hb], repD_i.2 rfl⟩)
theorem binS_sound {op : BinOp} {x y : List UInt8} {d : D} (t : TypeId) (h : binS op x y = some d) : ∃ v, (binOp op t (.string ⟨x.toArray⟩) (.string ⟨y.toArray⟩)).run P w = .ok v w ∧ RepD κ.L κ.imm d v := by
  unfold binS at h
  split at h
  case h_1 =>
    split at h
    · rename_i hb
      simp only [Option.some.injEq] at h
      subst h
      have hb' : ¬ ((9223372036854775807 : Int) < ((x.length : Int) + (y.length : Int))) := by omega
      exact ⟨_, by simp [binOp, Op.stringOp, size_mk, hb', append_mk], repD_s.2 rfl⟩
    · cases h
  all_goals first
    | (cases h; done)
    | (simp only [Option.some.injEq] at h; subst h; exact ⟨_, by simp [binOp, Op.stringOp, toList_mk, strLess_eq], repD_b.2 rfl⟩)
theorem bin_sound {op : BinOp} {t : TypeId} {xo yo : Operand} {x y z : V} {vx vy : Value} (h : binV op x y = some z) (hx : Rep κ x vx) (hy : Rep κ y vy) :
    ∃ v, (do eqGuard op t xo yo vx vy; binOp op t vx vy : Sem Value).run P w = .ok v w ∧ Rep κ z v := by
  unfold binV at h
  split at h
  · rename_i k a k' b
    rw [rep_i] at hx hy
    subst hx
    subst hy
    have hsh : ∀ d, shI op k a b = some d → ∃ v, (do eqGuard op t xo yo (.int k a) (.int k' b); binOp op t (.int k a) (.int k' b) : Sem Value).run P w = .ok v w ∧ Rep κ (.d d) v := fun d hd => by
      obtain ⟨v, h1, h2⟩ := shI_sound (P := P) (κ := κ) (w := w) (k' := k') t hd
      exact ⟨v, by simp [eqGuard_int, h1], h2⟩
    split at h
    · simp only [Option.map_eq_some_iff] at h
      obtain ⟨d, hd, rfl⟩ := h
      exact hsh d hd
    · simp only [Option.map_eq_some_iff] at h
      obtain ⟨d, hd, rfl⟩ := h
      exact hsh d hd
    · split at h
      · rename_i hk
        subst hk
        simp only [Option.map_eq_some_iff] at h
        obtain ⟨d, hd, rfl⟩ := h
        obtain ⟨v, h1, h2⟩ := arI_sound (P := P) (κ := κ) (w := w) t hd
        exact ⟨v, by simp [eqGuard_int, h1], h2⟩
      · cases h
  · rw [rep_s] at hx hy
    subst hx
    subst hy
    simp only [Option.map_eq_some_iff] at h
    obtain ⟨d, hd, rfl⟩ := h
    obtain ⟨v, h1, h2⟩ := binS_sound (P := P) (κ := κ) (w := w) t hd
    exact ⟨v, by simp [eqGuard_str, h1], h2⟩
  · cases h
theorem un_sound {op : UnOp} {x z : V} {vx : Value} (h : unV op x = some z) (hx : Rep κ x vx) : ∃ v, (Op.unary op vx).run P w = .ok v w ∧ Rep κ z v := by
  unfold unV at h
  split at h
  · rw [rep_i] at hx
    subst hx
    split at h
    · simp only [Option.some.injEq] at h
      subst h
      exact ⟨_, by simp [Op.unary, Op.intArith], rep_i.2 rfl⟩
    · simp only [Option.map_eq_some_iff] at h
      obtain ⟨d, hd, rfl⟩ := h
      obtain ⟨n, rfl, hr⟩ := bitI_sound (P := P) (w := w) hd
      exact ⟨_, by simpa [Op.unary] using hr, rep_i.2 rfl⟩
    · cases h
  · rw [rep_b] at hx
    subst hx
    split at h
    · simp only [Option.some.injEq] at h
      subst h
      exact ⟨_, by simp [Op.unary], rep_b.2 rfl⟩
    · cases h
  · cases h
end
end Go.Sh
