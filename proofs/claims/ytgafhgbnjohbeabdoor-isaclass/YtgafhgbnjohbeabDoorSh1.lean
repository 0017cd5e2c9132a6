/- The tie between shadow values and the machine's: what a shadow value stands for in a world, and what later worlds keep of it. -/
import Derived.Test.YtgafhgbnjohbeabDoorSh0
import Derived.Laws.OwnMore
import Derived.Laws.CopyRow
import Derived.Below
set_option linter.unusedVariables false
namespace Go.Sh
open Go.RowKit

inductive All2 {α β : Type} (R : α → β → Prop) : List α → List β → Prop where
  | nil : All2 R [] []
  | cons {x y xs ys} : R x y → All2 R xs ys → All2 R (x :: xs) (y :: ys)
theorem All2.length {α β : Type} {R : α → β → Prop} {xs : List α} {ys : List β} (h : All2 R xs ys) : xs.length = ys.length := by
  induction h with
  | nil => rfl
  | cons _ _ ih => simp [ih]
theorem All2.mono {α β : Type} {R S : α → β → Prop} (hs : ∀ x y, R x y → S x y) {xs : List α} {ys : List β} (h : All2 R xs ys) : All2 S xs ys := by
  induction h with
  | nil => exact .nil
  | cons h _ ih => exact .cons (hs _ _ h) ih
theorem All2.get {α β : Type} {R : α → β → Prop} {xs : List α} {ys : List β} (h : All2 R xs ys) : ∀ {i : Nat} {x : α}, xs[i]? = some x → ∃ y, ys[i]? = some y ∧ R x y := by
  induction h with
  | nil => intro i x hx; simp at hx
  | cons h _ ih =>
    intro i x hx
    cases i with
    | zero => simp at hx; subst hx; exact ⟨_, rfl, h⟩
    | succ i => simp at hx; simpa using ih hx
theorem All2.append {α β : Type} {R : α → β → Prop} {xs xs' : List α} {ys ys' : List β} (h : All2 R xs ys) (h' : All2 R xs' ys') : All2 R (xs ++ xs') (ys ++ ys') := by
  induction h with
  | nil => exact h'
  | cons h _ ih => exact .cons h ih
theorem All2.take {α β : Type} {R : α → β → Prop} {xs : List α} {ys : List β} (h : All2 R xs ys) : ∀ n, All2 R (xs.take n) (ys.take n) := by
  induction h with
  | nil => intro n; simp; exact .nil
  | cons h _ ih => intro n; cases n with
    | zero => exact .nil
    | succ n => exact .cons h (ih n)
theorem All2.drop {α β : Type} {R : α → β → Prop} {xs : List α} {ys : List β} (h : All2 R xs ys) : ∀ n, All2 R (xs.drop n) (ys.drop n) := by
  induction h with
  | nil => intro n; simp; exact .nil
  | cons h t ih => intro n; cases n with
    | zero => exact .cons h t
    | succ n => exact ih n
theorem All2.of_get {α β : Type} {R : α → β → Prop} {xs : List α} : ∀ {ys : List β}, xs.length = ys.length → (∀ (i : Nat) x y, xs[i]? = some x → ys[i]? = some y → R x y) → All2 R xs ys := by
  induction xs with
  | nil => intro ys hl _; cases ys with
    | nil => exact .nil
    | cons y ys => simp at hl
  | cons x xs ih => intro ys hl h; cases ys with
    | nil => simp at hl
    | cons y ys => exact .cons (h 0 x y rfl rfl) (ih (by simpa using hl) fun i a b ha hb => h (i + 1) a b (by simpa using ha) (by simpa using hb))

/-- The seat's numbers of types, functions and package variables. -/
structure Link where
  ty : Nat → TypeId
  fn : Nat → FuncId
  gl : Nat → Nat

abbrev Imm := Nat → Nat → Value → Prop

mutual
def RepD (L : Link) (I : Imm) : D → Value → Prop
  | .i k n, v => v = .int k n
  | .b b, v => v = .bool b
  | .s l, v => v = .string ⟨l.toArray⟩
  | .np, v => v = .pointer none
  | .nm, v => v = .map none
  | .ni, v => v = .nilIface
  | .nf, v => v = .nilFunc
  | .sl n nz cs, v => ∃ A cap, v = .slice A n cap ∧ n ≤ cap ∧ nz = A.isSome ∧ (A = none → cap = 0) ∧ (cs = [] ∨ ∃ b o, A = some ⟨b, o, none⟩ ∧ RepL L I cs b o)
  | .ifc tag agg cs, v => ∃ l : List Value, v = .iface (L.ty tag) (if agg then .agg l.toArray else l.headD undef) ∧ (agg = false → l.length = 1) ∧ RepA L I cs l
def RepL (L : Link) (I : Imm) : List D → Nat → Nat → Prop
  | [], _, _ => True
  | c :: cs, b, o => (∃ x, I b o x ∧ RepD L I c x) ∧ RepL L I cs b (o + 1)
def RepA (L : Link) (I : Imm) : List D → List Value → Prop
  | [], l => l = []
  | c :: cs, l => ∃ x r, l = x :: r ∧ RepD L I c x ∧ RepA L I cs r
end

mutual
theorem RepD.mono {L : Link} {I J : Imm} (hIJ : ∀ b o x, I b o x → J b o x) : ∀ (d : D) (v : Value), RepD L I d v → RepD L J d v
  | .i k n, v, h => by simpa only [RepD] using h
  | .b b, v, h => by simpa only [RepD] using h
  | .s l, v, h => by simpa only [RepD] using h
  | .np, v, h => by simpa only [RepD] using h
  | .nm, v, h => by simpa only [RepD] using h
  | .ni, v, h => by simpa only [RepD] using h
  | .nf, v, h => by simpa only [RepD] using h
  | .sl n nz cs, v, h => by
    simp only [RepD] at h ⊢
    obtain ⟨A, cap, h1, h2, h3, h4, h5⟩ := h
    refine ⟨A, cap, h1, h2, h3, h4, h5.imp id ?_⟩
    rintro ⟨b, o, ha, hl⟩
    exact ⟨b, o, ha, RepL.mono hIJ cs b o hl⟩
  | .ifc tag agg cs, v, h => by
    simp only [RepD] at h ⊢
    obtain ⟨l, h1, h2, h3⟩ := h
    exact ⟨l, h1, h2, RepA.mono hIJ cs l h3⟩
theorem RepL.mono {L : Link} {I J : Imm} (hIJ : ∀ b o x, I b o x → J b o x) : ∀ (cs : List D) (b o : Nat), RepL L I cs b o → RepL L J cs b o
  | [], b, o, _ => by simp only [RepL]
  | c :: cs, b, o, h => by
    simp only [RepL] at h ⊢
    obtain ⟨⟨x, hx, hd⟩, hr⟩ := h
    exact ⟨⟨x, hIJ _ _ _ hx, RepD.mono hIJ c x hd⟩, RepL.mono hIJ cs b (o + 1) hr⟩
theorem RepA.mono {L : Link} {I J : Imm} (hIJ : ∀ b o x, I b o x → J b o x) : ∀ (cs : List D) (l : List Value), RepA L I cs l → RepA L J cs l
  | [], l, h => by simpa only [RepA] using h
  | c :: cs, l, h => by
    simp only [RepA] at h ⊢
    obtain ⟨x, r, h1, h2, h3⟩ := h
    exact ⟨x, r, h1, RepD.mono hIJ c x h2, RepA.mono hIJ cs r h3⟩
end
theorem RepA.all2 {L : Link} {I : Imm} : ∀ {cs : List D} {l : List Value}, RepA L I cs l ↔ All2 (RepD L I) cs l
  | [], l => by
    simp only [RepA]
    constructor
    · rintro rfl; exact .nil
    · intro h; cases h; rfl
  | c :: cs, l => by
    simp only [RepA]
    constructor
    · rintro ⟨x, r, rfl, h1, h2⟩; exact .cons h1 (RepA.all2.1 h2)
    · intro h; cases h with
      | cons h1 h2 => exact ⟨_, _, rfl, h1, RepA.all2.2 h2⟩
theorem RepL.get {L : Link} {I : Imm} : ∀ {cs : List D} {b o : Nat}, RepL L I cs b o → ∀ {j : Nat} {c : D}, cs[j]? = some c → ∃ x, I b (o + j) x ∧ RepD L I c x
  | [], b, o, _, j, c, h => by simp at h
  | d :: cs, b, o, h, j, c, hj => by
    simp only [RepL] at h
    cases j with
    | zero => simp at hj; subst hj; simpa using h.1
    | succ j =>
      have := RepL.get h.2 (j := j) (by simpa using hj)
      rwa [show o + 1 + j = o + (j + 1) by omega] at this
theorem RepL.of {L : Link} {I : Imm} : ∀ {cs : List D} {b o : Nat}, (∀ j c, cs[j]? = some c → ∃ x, I b (o + j) x ∧ RepD L I c x) → RepL L I cs b o
  | [], b, o, _ => by simp only [RepL]
  | d :: cs, b, o, h => by
    simp only [RepL]
    refine ⟨by simpa using h 0 d rfl, RepL.of fun j c hj => ?_⟩
    have := h (j + 1) c (by simpa using hj)
    rwa [show o + (j + 1) = o + 1 + j by omega] at this
theorem RepL.drop {L : Link} {I : Imm} {cs : List D} {b o : Nat} (h : RepL L I cs b o) (k : Nat) : RepL L I (cs.drop k) b (o + k) :=
  RepL.of fun j c hj => by
    rw [List.getElem?_drop] at hj
    have := h.get hj
    rwa [show o + k + j = o + (k + j) by omega]
theorem RepL.take {L : Link} {I : Imm} {cs : List D} {b o : Nat} (h : RepL L I cs b o) (k : Nat) : RepL L I (cs.take k) b o :=
  RepL.of fun j c hj => by
    rw [List.getElem?_take] at hj
    split at hj
    · exact h.get hj
    · cases hj
/-- The machine's values of cells that lie in a row. -/
theorem RepL.vals {L : Link} {I : Imm} : ∀ {cs : List D} {b o : Nat}, RepL L I cs b o → ∃ l : List Value, All2 (RepD L I) cs l ∧ ∀ j x, l[j]? = some x → I b (o + j) x
  | [], b, o, _ => ⟨[], .nil, fun j x h => by simp at h⟩
  | c :: cs, b, o, h => by
    simp only [RepL] at h
    obtain ⟨⟨x, hx, hd⟩, hr⟩ := h
    obtain ⟨l, h1, h2⟩ := RepL.vals hr
    refine ⟨x :: l, .cons hd h1, fun j y hj => ?_⟩
    cases j with
    | zero => simp at hj; subst hj; simpa using hx
    | succ j =>
      have := h2 j y (by simpa using hj)
      rwa [show o + 1 + j = o + (j + 1) by omega] at this

/-- A growable row as the machine has it. -/
structure Tok where
  v : Value
  e : TypeId
  size : Nat
  n : Nat

/-- Where a run stands: the world at the beginning of all, the world now, which cells may still be written, the blocks of the shadow heap, the growable rows. -/
structure K where
  L : Link
  w0 : World
  w : World
  wr : Nat → Nat → Prop
  ρ : List Nat
  tk : List Tok

def K.imm (κ : K) : Imm := fun b o x => κ.w.cell? ⟨b, o, none⟩ = some x ∧ ¬ κ.wr b o

def RepC (κ : K) : V → Value → Prop
  | .d x, v => RepD κ.L κ.imm x v
  | .own sz n nz cs t, v => RepD κ.L κ.imm (.sl n nz cs) v ∧ ∃ tok, κ.tk[t]? = some tok ∧ tok.size = sz ∧ n ≤ tok.n ∧ (tok.n = n → tok.v = v)
  | .ptr id off, v => ∃ b, κ.ρ[id]? = some b ∧ v = .pointer (some ⟨b, off, none⟩)
  | .ep cs, v => ∃ A, v = .pointer (some A) ∧ (cs = [] ∨ ∃ b o, A = ⟨b, o, none⟩ ∧ RepL κ.L κ.imm cs b o)
  | .rsl _ id off n cap, v => ∃ b o, κ.ρ[id]? = some b ∧ v = .slice (some ⟨b, o, none⟩) n cap ∧ n ≤ cap ∧ (cap = 0 ∨ o = off)
  | .map id, v => ∃ b, κ.ρ[id]? = some b ∧ v = .map (some b)
  | .agg _, _ => False
  | .tup _, _ => False
  | .un, _ => False
def Rep1 (κ : K) : V → Value → Prop
  | .agg cs, v => ∃ l : List Value, v = .agg l.toArray ∧ All2 (RepC κ) cs l
  | .un, v => v = undef
  | x, v => RepC κ x v
def Rep (κ : K) : V → Value → Prop
  | .tup vs, v => ∃ l : List Value, v = .tuple l.toArray ∧ All2 (Rep1 κ) vs l
  | x, v => Rep1 κ x v

structure K.le (κ κ' : K) : Prop where
  L : κ'.L = κ.L
  w0 : κ'.w0 = κ.w0
  imm : ∀ b o x, κ.imm b o x → κ'.imm b o x
  ρ : ∀ (i : Nat) (b : Nat), κ.ρ[i]? = some b → κ'.ρ[i]? = some b
  tk : ∀ (t : Nat) (tok : Tok), κ.tk[t]? = some tok → ∃ tok', κ'.tk[t]? = some tok' ∧ tok'.size = tok.size ∧ tok.n ≤ tok'.n ∧ (tok'.n = tok.n → tok'.v = tok.v)
  wr : ∀ b o, b < κ.w0.heap.size → κ.wr b o → κ'.wr b o
theorem K.le.refl (κ : K) : κ.le κ := ⟨rfl, rfl, fun _ _ _ h => h, fun _ _ h => h, fun _ tok h => ⟨tok, h, rfl, Nat.le_refl _, fun _ => rfl⟩, fun _ _ _ h => h⟩
theorem K.le.trans {a b c : K} (h : a.le b) (k : b.le c) : a.le c :=
  ⟨k.L.trans h.L, k.w0.trans h.w0, fun _ _ _ x => k.imm _ _ _ (h.imm _ _ _ x), fun _ _ x => k.ρ _ _ (h.ρ _ _ x), fun t tok x => by
    obtain ⟨t1, h1, h4, h2, h3⟩ := h.tk t tok x
    obtain ⟨t2, k1, k4, k2, k3⟩ := k.tk t t1 h1
    exact ⟨t2, k1, k4.trans h4, Nat.le_trans h2 k2, fun e => by rw [k3 (by omega), h3 (by omega)]⟩, fun x o hx hw => k.wr x o (by rw [h.w0]; exact hx) (h.wr x o hx hw)⟩
theorem RepC.mono {κ κ' : K} (h : κ.le κ') : ∀ {x : V} {v : Value}, RepC κ x v → RepC κ' x v
  | .d x, v, hr => by simp only [RepC] at hr ⊢; rw [h.L]; exact RepD.mono h.imm _ _ hr
  | .own sz n nz cs t, v, hr => by
    simp only [RepC] at hr ⊢
    rw [h.L]
    obtain ⟨h1, tok, h2, h5, h4, h3⟩ := hr
    obtain ⟨tok', k1, k4, k2, k3⟩ := h.tk t tok h2
    exact ⟨RepD.mono h.imm _ _ h1, tok', k1, k4.trans h5, by omega, fun e => by rw [k3 (by omega)]; exact h3 (by omega)⟩
  | .ptr id off, v, hr => by
    obtain ⟨b, h1, h2⟩ := hr
    exact ⟨b, h.ρ _ _ h1, h2⟩
  | .ep cs, v, hr => by
    obtain ⟨A, h1, h2⟩ := hr
    exact ⟨A, h1, h2.imp id fun ⟨b, o, h3, h4⟩ => ⟨b, o, h3, by rw [h.L]; exact RepL.mono h.imm _ _ _ h4⟩⟩
  | .rsl _ id off n cap, v, hr => by
    obtain ⟨b, o, h1, h2⟩ := hr
    exact ⟨b, o, h.ρ _ _ h1, h2⟩
  | .map id, v, hr => by
    obtain ⟨b, h1, h2⟩ := hr
    exact ⟨b, h.ρ _ _ h1, h2⟩
  | .agg _, _, hr => hr
  | .tup _, _, hr => hr
  | .un, _, hr => hr
theorem Rep1.mono {κ κ' : K} (h : κ.le κ') : ∀ {x : V} {v : Value}, Rep1 κ x v → Rep1 κ' x v
  | .agg cs, v, ⟨l, h1, h2⟩ => ⟨l, h1, h2.mono fun _ _ => RepC.mono h⟩
  | .un, _, hr => hr
  | .d _, _, hr => RepC.mono (κ := κ) h (x := .d _) hr
  | .own .., _, hr => RepC.mono (κ := κ) h (x := .own ..) hr
  | .ptr .., _, hr => RepC.mono (κ := κ) h (x := .ptr ..) hr
  | .ep .., _, hr => RepC.mono (κ := κ) h (x := .ep ..) hr
  | .rsl s i o n c, _, hr => RepC.mono (κ := κ) h (x := .rsl s i o n c) hr
  | .map .., _, hr => RepC.mono (κ := κ) h (x := .map ..) hr
  | .tup .., _, hr => hr
theorem Rep.mono {κ κ' : K} (h : κ.le κ') : ∀ {x : V} {v : Value}, Rep κ x v → Rep κ' x v
  | .tup vs, v, ⟨l, h1, h2⟩ => ⟨l, h1, h2.mono fun _ _ => Rep1.mono h⟩
  | .agg .., _, hr => Rep1.mono (κ := κ) h (x := .agg ..) hr
  | .un, _, hr => hr
  | .d _, _, hr => RepC.mono (κ := κ) h (x := .d _) hr
  | .own .., _, hr => RepC.mono (κ := κ) h (x := .own ..) hr
  | .ptr .., _, hr => RepC.mono (κ := κ) h (x := .ptr ..) hr
  | .ep .., _, hr => RepC.mono (κ := κ) h (x := .ep ..) hr
  | .rsl s i o n c, _, hr => RepC.mono (κ := κ) h (x := .rsl s i o n c) hr
  | .map .., _, hr => RepC.mono (κ := κ) h (x := .map ..) hr
theorem Rep.of1 {κ : K} : ∀ {x : V} {v : Value}, Rep1 κ x v → Rep κ x v
  | .tup _, _, hr => hr.elim
  | .agg .., _, hr => hr
  | .un, _, hr => hr
  | .d _, _, hr => hr
  | .own .., _, hr => hr
  | .ptr .., _, hr => hr
  | .ep .., _, hr => hr
  | .rsl .., _, hr => hr
  | .map .., _, hr => hr
theorem Rep1.ofC {κ : K} : ∀ {x : V} {v : Value}, RepC κ x v → Rep1 κ x v
  | .tup _, _, hr => hr.elim
  | .agg .., _, hr => hr.elim
  | .un, _, hr => hr.elim
  | .d _, _, hr => hr
  | .own .., _, hr => hr
  | .ptr .., _, hr => hr
  | .ep .., _, hr => hr
  | .rsl .., _, hr => hr
  | .map .., _, hr => hr

/-- A map's entry. -/
def RepE (κ : K) (x : D × V) (e : MapEntry) : Prop := RepD κ.L κ.imm x.1 e.key ∧ Rep1 κ x.2 e.val
theorem RepE.mono {κ κ' : K} (h : κ.le κ') {x : D × V} {e : MapEntry} (hr : RepE κ x e) : RepE κ' x e :=
  ⟨by rw [h.L]; exact RepD.mono h.imm _ _ hr.1, Rep1.mono h hr.2⟩

structure Inv (P : Prog) (κ : K) (st : St) : Prop where
  below : Below κ.w0.heap.size κ.w0 κ.w
  len : κ.ρ.length = st.heap.length
  tips : st.tips = κ.tk.map (·.n)
  nd : ∀ (i j b : Nat), κ.ρ[i]? = some b → κ.ρ[j]? = some b → i = j
  ρb : ∀ (i b : Nat), κ.ρ[i]? = some b → κ.w0.heap.size ≤ b ∧ b < κ.w.heap.size
  rows : ∀ (id : Nat) (cs : List V), st.row id = some cs → ∃ b arr e, κ.ρ[id]? = some b ∧ κ.w.heap[b]? = some (.cells arr e (0, 0)) ∧ All2 (RepC κ) cs arr.toList ∧ ∀ o, κ.wr b o
  maps : ∀ (id : Nat) (es : List (D × V)), st.mapOf id = some es → ∃ b arr clk, κ.ρ[id]? = some b ∧ κ.w.heap[b]? = some (.map arr clk) ∧ All2 (RepE κ) es arr.toList
  toks : ∀ (t : Nat) (tok : Tok), κ.tk[t]? = some tok → (∃ xs, κ.w.ownsRow κ.w0.heap.size tok.e tok.size tok.v tok.n xs) ∧
    ∀ g, tok.v.ownBlock = some g → (∀ i : Nat, κ.ρ[i]? ≠ some g) ∧ ∀ o, tok.n * tok.size ≤ o → κ.wr g o
  tdis : ∀ (t t' : Nat) (tok tok' : Tok) (g : Nat), κ.tk[t]? = some tok → κ.tk[t']? = some tok' → tok.v.ownBlock = some g → tok'.v.ownBlock = some g → t = t'
  muts : ∀ b o, κ.wr b o → b < κ.w.heap.size
  globs : ∀ name cells, P.glob name = some cells → RepL κ.L κ.imm cells (κ.L.gl name) 0

/-- The machine's slots and the shadow's. -/
def ERel (κ : K) (e : Env) (a : Act) : Prop := ∀ i v, e.get i = some v → i < a.tmps.size ∧ Rep κ v (a.tmps.getD i undef)
theorem ERel.mono {κ κ' : K} (h : κ.le κ') {e : Env} {a : Act} (hr : ERel κ e a) : ERel κ' e a := fun i v hv => ⟨(hr i v hv).1, Rep.mono h (hr i v hv).2⟩
end Go.Sh
