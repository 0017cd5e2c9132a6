/- Shelves: a state told by labels of rows, with lists in rows of their own and lists that stay as they are. -/
import Derived.Test.YtnemobbnlacmjaaDoorShLbook1
set_option linter.unusedVariables false
set_option linter.unusedSimpArgs false
namespace Go.Sh
/-- The cells that a slice holds. -/
def Lst (st : St) (sz : Nat) (v : V) (L : List D) : Prop := match v with
  | .d (.sl n _ cs) => cs = L ∧ L.length = n * sz
  | .rsl s id off n _ => s = sz ∧ off = 0 ∧ L.length = n * sz ∧ ∃ c, st.row id = some c ∧ n * sz ≤ c.length ∧ c.take (n * sz) = ofDs L
  | _ => False
section
variable {st s1 : St} {A : Nat → Prop} {P : V → Prop} {v : V} {sz : Nat} {L : List D}
theorem Lst.lt (h : Lst st sz v L) {j : Nat} (hj : foot v = some j) : j < st.heap.length := by
  cases v with
  | rsl s id off n cap =>
    obtain ⟨_, _, _, c, h1, _⟩ := h
    obtain rfl := Option.some.inj hj
    exact row_lt h1
  | _ => cases hj
theorem Lst.row (h : Lst st sz v L) (he : ∀ j, foot v = some j → s1.row j = st.row j) : Lst s1 sz v L := by
  cases v with
  | rsl s id off n cap =>
    obtain ⟨h1, h2, h3, c, h4, h5⟩ := h
    exact ⟨h1, h2, h3, c, (he id rfl).trans h4, h5⟩
  | d d => cases d <;> exact h
  | _ => exact h
theorem Lst.gr (h : Lst st sz v L) (g : Gr st s1 A P) (ha : ∀ j, foot v = some j → ¬ A j) : Lst s1 sz v L := h.row fun j hj => g.keep j (h.lt hj) (ha j hj)
theorem Lst.one (h : Lst st sz v L) : v.ok1 = true ∧ v.cs = [v] := by
  cases v with
  | d d => exact ⟨rfl, rfl⟩
  | rsl s id off n cap => exact ⟨rfl, rfl⟩
  | _ => exact h.elim
theorem LR.lst {n : Nat} {j : Option Nat} (h : LR st sz v n (ofDs L) j) : Lst st sz v L ∧ foot v = j ∧ L.length = n * sz := by
  obtain ⟨h0, ⟨rfl, rfl, rfl⟩ | ⟨j0, cap, tail, rfl, rfl, h1, h2, h3⟩⟩ := h
  · rw [ofDs_len, Nat.zero_mul] at h0
    have : L = [] := List.eq_nil_of_length_eq_zero h0
    subst this
    exact ⟨⟨rfl, by simp⟩, rfl, by simp⟩
  · have h0' : L.length = n * sz := by rw [← ofDs_len]; exact h0
    exact ⟨⟨rfl, rfl, h0', _, h2, by rw [List.length_append]; omega, by rw [← h0, List.take_left' rfl]⟩, rfl, h0'⟩
theorem Lst.see (h : Lst st sz v L) (k : Nat) : ∃ n nz, see1 st (k + 1) v = some (.d (.sl n nz L)) ∧ L.length = n * sz := by
  cases v with
  | d d =>
    cases d with
    | sl n nz cs => obtain ⟨rfl, h⟩ := h; exact ⟨n, nz, rfl, h⟩
    | _ => exact h.elim
  | rsl s id off n cap =>
    obtain ⟨rfl, rfl, h3, c, h4, h5, h6⟩ := h
    refine ⟨n, true, ?_, h3⟩
    simp only [see1, seeD, h4, Nat.zero_add, h5, if_true, List.drop_zero, h6, seeL_ofDs, Option.map_some]
  | _ => exact h.elim
theorem Lst.vw (h : Lst st sz v L) : ∃ n, vwV sz st v = some (n, ofDs L) ∧ L.length = n * sz ∧ lenV v = some n := by
  cases v with
  | d d =>
    cases d with
    | sl n nz cs => obtain ⟨rfl, h⟩ := h; exact ⟨n, rfl, h, rfl⟩
    | _ => exact h.elim
  | rsl s id off n cap =>
    obtain ⟨rfl, rfl, h3, c, h4, h5, h6⟩ := h
    refine ⟨n, ?_, h3, rfl⟩
    simp only [vwV, if_true, h4, Nat.zero_add, h5, List.drop_zero, h6]
  | _ => exact h.elim
/-- Cells of a kind stay cells of a kind. -/
theorem Lst.known {K : D → Prop} (h : Lst st sz v L) (hK : ∀ d ∈ L, K d) (g : Gr st s1 A P) (hP : ∀ x, P x → ∃ d, x = .d d ∧ K d) : ∃ L', Lst s1 sz v L' ∧ L'.length = L.length ∧ ∀ d ∈ L', K d := by
  cases v with
  | d d =>
    refine ⟨L, ?_, rfl, hK⟩
    cases d <;> exact h
  | rsl s id off n cap =>
    obtain ⟨h1, h2, h3, c, h4, h5, h6⟩ := h
    obtain ⟨c', k1, k2, k3⟩ := g.cell id c h4
    have hall : ∀ x ∈ c'.take (n * sz), ∃ d, x = V.d d ∧ K d := by
      intro x hx
      obtain ⟨i, hi⟩ := List.mem_iff_getElem?.1 hx
      have hin : i < n * sz := by
        have := (List.getElem?_eq_some_iff.1 hi).1
        rw [List.length_take] at this
        omega
      rw [List.getElem?_take, if_pos hin] at hi
      rcases k3 i x hi with h | h
      · have : (c.take (n * sz))[i]? = some x := by rw [List.getElem?_take, if_pos hin]; exact h
        rw [h6] at this
        simp only [ofDs, List.getElem?_map, Option.map_eq_some_iff] at this
        obtain ⟨d, hd, rfl⟩ := this
        exact ⟨d, rfl, hK d (List.mem_of_getElem? hd)⟩
      · exact hP x h
    have : ∀ l : List V, (∀ x ∈ l, ∃ d, x = V.d d ∧ K d) → ∃ L' : List D, l = ofDs L' ∧ L'.length = l.length ∧ ∀ d ∈ L', K d := by
      intro l
      induction l with
      | nil => intro _; exact ⟨[], rfl, rfl, fun _ h => by cases h⟩
      | cons x l ih =>
        intro hl
        obtain ⟨d, rfl, hd⟩ := hl x List.mem_cons_self
        obtain ⟨L', h1, h2, h3⟩ := ih fun y hy => hl y (List.mem_cons_of_mem _ hy)
        refine ⟨d :: L', by rw [h1]; rfl, by simp [h2], fun y hy => ?_⟩
        cases hy with
        | head => exact hd
        | tail _ hy => exact h3 y hy
    obtain ⟨L', e1, e2, e3⟩ := this _ hall
    have e4 : L'.length = n * sz := by rw [e2, List.length_take]; omega
    exact ⟨L', ⟨h1, h2, e4, c', k1, by omega, e1⟩, by omega, e3⟩
  | _ => exact h.elim
theorem Lst.leng {s1 : St} {L' : List D} (h : Lst st sz v L) (h' : Lst s1 sz v L') : L.length = L'.length := by
  cases v with
  | d d =>
    cases d with
    | sl n nz cs => exact h.2.trans h'.2.symm
    | _ => exact h.elim
  | rsl s id off n cap => exact h.2.2.1.trans h'.2.2.1.symm
  | _ => exact h.elim
end
/-- A beginning of a list that grew in its row. -/
theorem LR.subz {s s' : St} {A : Nat → Prop} {P : V → Prop} {sz : Nat} {v g : V} {n n' : Nat} {cells more : List V} {j : Option Nat} (h : LR s sz v n cells j) (h' : LR s' sz g n' (cells ++ more) j) (gr : Gr s s' A P) : LR s' sz v n cells j := by
  obtain ⟨h0, ⟨rfl, hn⟩ | ⟨j0, cap, tail, rfl, h1, h2, h3, h4⟩⟩ := h
  · exact ⟨h0, .inl ⟨rfl, hn⟩⟩
  · obtain ⟨tail', ht'⟩ := h'.inRow rfl
    obtain ⟨c', k1, k2, _⟩ := gr.cell j0 _ h3
    rw [ht'] at k1
    obtain rfl := Option.some.inj k1
    refine ⟨h0, .inr ⟨j0, cap, more ++ tail', rfl, h1, h2, by rw [← List.append_assoc]; exact ht', ?_⟩⟩
    simp only [List.length_append] at k2 ⊢
    omega
/-! ### Labels, with what their rows hold -/
def updF {α : Type} (f : Nat → α) (a : Nat) (x : α) : Nat → α := fun c => if c = a then x else f c
theorem updF_eq {α : Type} {f : Nat → α} {a : Nat} {x : α} : updF f a x a = x := by simp [updF]
theorem updF_ne {α : Type} {f : Nat → α} {a c : Nat} {x : α} (h : c ≠ a) : updF f a x c = f c := by simp [updF, h]
theorem updF_updF {α : Type} {f : Nat → α} {a : Nat} {x y : α} : updF (updF f a x) a y = updF f a y := by
  funext c
  by_cases h : c = a <;> simp [updF, h]
theorem updF_self {α : Type} {f : Nat → α} {a : Nat} : updF f a (f a) = f := by
  funext c
  by_cases h : c = a <;> simp [updF, h]
theorem upd_self {f : Nat → Option Nat} {a : Nat} : upd f a (f a) = f := by
  funext c
  by_cases h : c = a <;> simp [upd, h]
theorem upd_upd {f : Nat → Option Nat} {a : Nat} {x y : Option Nat} : upd (upd f a x) a y = upd f a y := by
  funext c
  by_cases h : c = a <;> simp [upd, h]
/-- What stands under a label: the cells of an element, how many, the slice, what it holds. -/
abbrev Fs := Nat → Option (Nat × Nat × V × List V)
structure Hp (SZ : Nat) (s : St) (p : Nat) (R : List V) (lab : Nat → Option Nat) (fs : Fs) (Pv : List (V × List D)) (Al : List (Nat × List V)) : Prop where
  fl : s.floor = 0
  row : s.row p = some R
  p0 : lab 0 = some p
  f0 : fs 0 = none
  lr : ∀ a x, fs a = some x → LR s x.1 x.2.2.1 x.2.1 x.2.2.2 (lab a)
  labs : Labs s lab
  pv : ∀ x ∈ Pv, Lst s SZ x.1 x.2 ∧ Free lab x.1
  al : ∀ x ∈ Al, s.row x.1 = some x.2 ∧ (∀ a, lab a ≠ some x.1) ∧ ∀ y ∈ Pv, foot y.1 ≠ some x.1
section
variable {SZ : Nat} {s s' : St} {p : Nat} {R : List V} {lab : Nat → Option Nat} {fs : Fs} {pv : List (V × List D)} {al : List (Nat × List V)} {A : Nat → Prop} {P : V → Prop}
/-- Rows of some labels are written, and new ones. -/
theorem Hp.grS (h : Hp SZ s p R lab fs pv al) (g : Gr s s' A P) {fs' : Fs} (S : Nat → Prop) (h0 : ¬ S 0) (hA : ∀ r, r < s.heap.length → A r → ∃ a, S a ∧ lab a = some r)
    (hf : ∀ a x, fs' a = some x → (fs a = some x ∧ ¬ S a) ∨ (a ≠ 0 ∧ LR s' x.1 x.2.2.1 x.2.1 x.2.2.2 (lab a))) : Hp SZ s' p R lab fs' pv al := by
  have hl : ∀ a, ¬ S a → ∀ r, lab a = some r → ¬ A r := by
    intro a ha r hr hAr
    obtain ⟨d, hd, hd2⟩ := hA r (h.labs.lt a r hr) hAr
    exact ha (h.labs.sep a d r hr hd2 ▸ hd)
  refine ⟨g.floor.trans h.fl, (g.keep p (row_lt h.row) (hl 0 h0 p h.p0)).trans h.row, h.p0, ?_, ?_, h.labs.mono g.len, ?_, fun x hx => ?_⟩
  rotate_right
  · obtain ⟨h1, h2, h3⟩ := h.al x hx
    refine ⟨(g.keep x.1 (row_lt h1) fun hAr => ?_).trans h1, h2, h3⟩
    obtain ⟨d, _, hd⟩ := hA x.1 (row_lt h1) hAr
    exact h2 d hd
  · cases hx : fs' 0 with
    | none => rfl
    | some x =>
      rcases hf 0 x hx with ⟨h1, _⟩ | ⟨h1, _⟩
      · rw [h.f0] at h1; cases h1
      · exact (h1 rfl).elim
  · intro a x hx
    rcases hf a x hx with ⟨h1, h2⟩ | ⟨_, h2⟩
    · exact (h.lr a x h1).gr g fun r hr => hl a h2 r hr
    · exact h2
  · intro x hx
    obtain ⟨h1, h2⟩ := h.pv x hx
    refine ⟨h1.gr g fun r hr hAr => ?_, h2⟩
    obtain ⟨d, _, hd⟩ := hA r (h1.lt hr) hAr
    exact h2 r hr d hd
/-- Only new rows. -/
theorem Hp.new (h : Hp SZ s p R lab fs pv al) (g : Gr s s' A P) (hA : ∀ r, r < s.heap.length → ¬ A r) : Hp SZ s' p R lab fs pv al :=
  h.grS g (fun _ => False) (fun h => h) (fun r hr h => (hA r hr h).elim) fun a x hx => .inl ⟨hx, fun h => h⟩
theorem Hp.push (h : Hp SZ s p R lab fs pv al) (b : Blk) : Hp SZ (s.push b) p R lab fs pv al := h.new (A := fun _ => False) (P := fun _ => True) (.push b) fun _ _ h => h
/-- A row that is nobody's. -/
def Lone (s : St) (lab : Nat → Option Nat) (pv : List (V × List D)) (al : List (Nat × List V)) (a : Nat) (j : Option Nat) : Prop := ∀ r, j = some r → r < s.heap.length ∧ (lab a = some r ∨ ((∀ c, lab c ≠ some r) ∧ (∀ x ∈ pv, foot x.1 ≠ some r) ∧ ∀ x ∈ al, x.1 ≠ r))
theorem Hp.lone (h : Hp SZ s p R lab fs pv al) (hl : s.heap.length ≤ s'.heap.length) {a : Nat} {j : Option Nat} (hn : NewOr s s' (lab a) j) : Lone s' lab pv al a j := by
  intro r hr
  rcases hn with rfl | ⟨i, rfl, h1, h2⟩
  · exact ⟨Nat.lt_of_lt_of_le (h.labs.lt a r hr) hl, .inl hr⟩
  · obtain rfl := Option.some.inj hr
    refine ⟨h2, .inr ⟨fun c hc => ?_, fun x hx hc => ?_, fun x hx hc => ?_⟩⟩
    · have := h.labs.lt c _ hc; omega
    · have := (h.pv x hx).1.lt hc; omega
    · have := row_lt (h.al x hx).1; omega
theorem Hp.set (h : Hp SZ s p R lab fs pv al) {a : Nat} (ha : a ≠ 0) {j : Option Nat} (hj : Lone s lab pv al a j) {sz n : Nat} {v : V} {c : List V} (hl : LR s sz v n c j) (hfa : ∀ b, b ≠ a → ∀ r, j = some r → lab b ≠ some r) : Hp SZ s p R (upd lab a j) (updF fs a (some (sz, n, v, c))) pv al := by
  refine ⟨h.fl, h.row, by rw [upd_ne (Ne.symm ha)]; exact h.p0, by rw [updF_ne (Ne.symm ha)]; exact h.f0, ?_, ⟨?_, ?_⟩, ?_, fun x hx => ?_⟩
  rotate_right
  · obtain ⟨h1, h2, h3⟩ := h.al x hx
    refine ⟨h1, fun b hb => ?_, h3⟩
    by_cases hba : b = a
    · subst hba; rw [upd_eq] at hb
      rcases (hj _ hb).2 with h4 | ⟨_, _, h4⟩
      · exact h2 _ h4
      · exact h4 x hx rfl
    · rw [upd_ne hba] at hb; exact h2 b hb
  · intro b x hx
    by_cases hb : b = a
    · subst hb
      rw [updF_eq] at hx
      obtain rfl := Option.some.inj hx
      rw [upd_eq]
      exact hl
    · rw [updF_ne hb] at hx
      rw [upd_ne hb]
      exact h.lr b x hx
  · intro b r hr
    by_cases hb : b = a
    · subst hb; rw [upd_eq] at hr; exact (hj r hr).1
    · rw [upd_ne hb] at hr; exact h.labs.lt b r hr
  · intro b d r hb hd
    by_cases hba : b = a <;> by_cases hda : d = a
    · rw [hba, hda]
    · subst hba; rw [upd_eq] at hb; rw [upd_ne hda] at hd
      exact absurd hd (hfa d hda r hb)
    · subst hda; rw [upd_eq] at hd; rw [upd_ne hba] at hb
      exact absurd hb (hfa b hba r hd)
    · rw [upd_ne hba] at hb; rw [upd_ne hda] at hd
      exact h.labs.sep b d r hb hd
  · intro x hx
    obtain ⟨h1, h2⟩ := h.pv x hx
    refine ⟨h1, fun r hr b hb => ?_⟩
    by_cases hba : b = a
    · subst hba; rw [upd_eq] at hb
      rcases (hj r hb).2 with h3 | ⟨_, h3, _⟩
      · exact h2 r hr _ h3
      · exact h3 x hx hr
    · rw [upd_ne hba] at hb
      exact h2 r hr b hb
theorem Hp.sepNew (h : Hp SZ s p R lab fs pv al) {a : Nat} {j : Option Nat} (hn : NewOr s s' (lab a) j) : ∀ b, b ≠ a → ∀ r, j = some r → lab b ≠ some r := by
  intro b hb r hr e
  rcases hn with rfl | ⟨i, rfl, h1, _⟩
  · exact hb (h.labs.sep b a r e hr)
  · obtain rfl := Option.some.inj hr
    have := h.labs.lt b _ e; omega
/-- Rows of one label are written; its list is now this. -/
theorem Hp.at (h : Hp SZ s p R lab fs pv al) {a : Nat} (ha : a ≠ 0) {sz n : Nat} {v : V} {c : List V} {j : Option Nat} (g : Gr s s' (fun r => lab a = some r) P) (hl : LR s' sz v n c j) (hn : NewOr s s' (lab a) j) : Hp SZ s' p R (upd lab a j) (updF fs a (some (sz, n, v, c))) pv al := by
  have h1 : Hp SZ s' p R lab (updF fs a none) pv al := h.grS g (fun b => b = a) (fun e => ha e.symm) (fun r _ hr => ⟨a, rfl, hr⟩) fun b x hx => by
    by_cases hb : b = a
    · subst hb; rw [updF_eq] at hx; cases hx
    · rw [updF_ne hb] at hx; exact .inl ⟨hx, hb⟩
  have h2 := h1.set ha (h.lone g.len hn) hl (h.sepNew hn)
  rwa [updF_updF] at h2
/-- append, to a list that nobody else has. -/
theorem Hp.app (h : Hp SZ s p R lab fs pv al) {a : Nat} (ha : a ≠ 0) {sz n : Nat} {v : V} {c : List V} (hf : fs a = some (sz, n, v, c)) {x : V} {m : Nat} {ys : List V} (hx : vwV sz s x = some (m, ys)) (hy : ys.length = m * sz) {zero : List D} {bytes : Nat} (hz : zero.length = sz) (hb : (n + m) * bytes ≤ 140737488355328) (hn : n + m ≤ 140737488355328) {Q : V → St → Prop}
    (hQ : ∀ s' v' j', Hp SZ s' p R (upd lab a j') (updF fs a (some (sz, n + m, v', c ++ ys))) pv al → Gr s s' (fun r => lab a = some r) (· ∈ ys) → NewOr s s' (lab a) j' → Q v' s') : appW sz bytes zero s v x Q := by
  refine appW_LR h.fl (h.lr a _ hf) hx hy hz hb hn ?_
  intro s1 v1 j1 hl g hn1
  exact hQ s1 v1 j1 (h.at ha g hl hn1) g hn1
/-- append, to a list that grew out of a label's. -/
theorem Hp.fork (h : Hp SZ s p R lab fs pv al) {a b : Nat} (ha : a ≠ 0) (hb0 : b ≠ 0) {sz n m k : Nat} {v g x : V} {c d ys : List V} (hf : fs a = some (sz, n, v, c)) (hg : LR s sz g m (c ++ d) (lab a)) (hx : vwV sz s x = some (k, ys)) (hy : ys.length = k * sz) {zero : List D} {bytes : Nat} (hz : zero.length = sz) (hb : (m + k) * bytes ≤ 140737488355328) (hn : m + k ≤ 140737488355328)
    (hlb : lab b = none) {Q : V → St → Prop}
    (hQ : ∀ s' g', Hp SZ s' p R lab fs pv al → LR s' sz g' (m + k) (c ++ (d ++ ys)) (lab a) → Gr s s' (fun r => lab a = some r) (· ∈ ys) → Q g' s')
    (hQ' : ∀ s' g' j', Hp SZ s' p R (upd lab b j') (updF fs b (some (sz, m + k, g', c ++ (d ++ ys)))) pv al → Gr s s' (fun r => lab a = some r) (· ∈ ys) → NewOr s s' none j' → Q g' s') : appW sz bytes zero s g x Q := by
  refine appW_LR2 h.fl hg hx hy hz hb hn ?_
  intro s1 g1 j1 hl gr hn1 hold _
  have hh : Hp SZ s1 p R lab fs pv al := h.grS gr (fun b => b = a) (fun e => ha e.symm) (fun r _ hr => ⟨a, rfl, hr⟩) fun e x hx => by
    by_cases he : e = a
    · subst he
      rw [hf] at hx
      obtain rfl := Option.some.inj hx
      exact .inr ⟨ha, LR.subz (h.lr e _ hf) hold gr⟩
    · exact .inl ⟨hx, he⟩
  rw [List.append_assoc] at hl
  rcases hn1 with rfl | ⟨r, rfl, h1, h2⟩
  · exact hQ s1 g1 hh hl gr
  · have hno : NewOr s s1 (lab b) (some r) := .inr ⟨r, rfl, h1, h2⟩
    exact hQ' s1 g1 (some r) (hh.set hb0 (h.lone gr.len hno) hl (h.sepNew hno)) gr (.inr ⟨r, rfl, h1, h2⟩)
/-- A list that stays as it is. -/
theorem Hp.prot (h : Hp SZ s p R lab fs pv al) {v : V} {L : List D} (hv : Lst s SZ v L) (hf : Free lab v) (ha : ∀ x ∈ al, foot v ≠ some x.1) : Hp SZ s p R lab fs ((v, L) :: pv) al :=
  ⟨h.fl, h.row, h.p0, h.f0, h.lr, h.labs, fun x hx => by
    cases hx with
    | head => exact ⟨hv, hf⟩
    | tail _ hx => exact h.pv x hx, fun x hx => ⟨(h.al x hx).1, (h.al x hx).2.1, fun y hy => by
    cases hy with
    | head => exact ha x hx
    | tail _ hy => exact (h.al x hx).2.2 y hy⟩⟩
theorem Hp.sub (h : Hp SZ s p R lab fs pv al) {pv' : List (V × List D)} (hs : ∀ x ∈ pv', x ∈ pv) : Hp SZ s p R lab fs pv' al := ⟨h.fl, h.row, h.p0, h.f0, h.lr, h.labs, fun x hx => h.pv x (hs x hx), fun x hx => ⟨(h.al x hx).1, (h.al x hx).2.1, fun y hy => (h.al x hx).2.2 y (hs y hy)⟩⟩
/-- A label is given up. -/
theorem Hp.drop (h : Hp SZ s p R lab fs pv al) {a : Nat} (ha : a ≠ 0) : Hp SZ s p R (upd lab a none) (updF fs a none) pv al :=
  ⟨h.fl, h.row, by rw [upd_ne (Ne.symm ha)]; exact h.p0, by rw [updF_ne (Ne.symm ha)]; exact h.f0, fun b x hx => by
    by_cases hb : b = a
    · subst hb; rw [updF_eq] at hx; cases hx
    · rw [updF_ne hb] at hx; rw [upd_ne hb]; exact h.lr b x hx, h.labs.drop a, fun x hx => ⟨(h.pv x hx).1, (h.pv x hx).2.drop a⟩, fun x hx => ⟨(h.al x hx).1, fun b hb => by
    by_cases hba : b = a
    · subst hba; rw [upd_eq] at hb; cases hb
    · rw [upd_ne hba] at hb; exact (h.al x hx).2.1 b hb, (h.al x hx).2.2⟩⟩
/-- A label's list is given up: it stays as it is. -/
theorem Hp.free (h : Hp SZ s p R lab fs pv al) {a : Nat} {v : V} (hv : foot v = lab a) : Free (upd lab a none) v := by
  intro r hr c hc
  by_cases hca : c = a
  · subst hca; rw [upd_eq] at hc; cases hc
  · rw [upd_ne hca] at hc
    exact hca (h.labs.sep c a r hc (by rw [← hv, hr]))
theorem Hp.done (h : Hp SZ s p R lab fs pv al) {a n : Nat} (ha : a ≠ 0) {v : V} {L : List D} (hf : fs a = some (SZ, n, v, ofDs L)) : Hp SZ s p R (upd lab a none) (updF fs a none) ((v, L) :: pv) al := by
  obtain ⟨h1, h2, _⟩ := (h.lr a _ hf).lst
  exact (h.drop ha).prot h1 (h.free h2) fun x hx e => (h.al x hx).2.1 a (by rw [← h2]; exact e)
/-- The owner's own row. -/
theorem Hp.put (h : Hp SZ s p R lab fs pv al) {R' : List V} (hl : R'.length = R.length) : Hp SZ (s.put p R') p R' lab fs pv al ∧ Gr s (s.put p R') (fun r => r = p) (fun _ => True) := by
  have g : Gr s (s.put p R') (fun r => r = p) (fun _ => True) := .put h.row hl rfl fun _ _ _ => .inr trivial
  have hne : ∀ a, fs a ≠ none → ∀ r, lab a = some r → r ≠ p := by
    rintro a ha r hr rfl
    have := h.labs.sep a 0 r hr h.p0
    subst this
    exact ha h.f0
  refine ⟨⟨h.fl, row_put_eq (row_lt h.row), h.p0, h.f0, fun a x hx => (h.lr a x hx).row fun r hr => row_put_ne (hne a (by rw [hx]; simp) r hr), h.labs.mono g.len, fun x hx => ⟨(h.pv x hx).1.row fun r hr => row_put_ne fun e => (h.pv x hx).2 r hr 0 (by rw [e]; exact h.p0), (h.pv x hx).2⟩, fun x hx => ⟨(row_put_ne fun e => (h.al x hx).2.1 0 (by rw [e]; exact h.p0)).trans (h.al x hx).1, (h.al x hx).2⟩⟩, g⟩
/-- A new row is somebody's. -/
theorem Hp.own (h : Hp SZ s p R lab fs pv al) {a : Nat} (ha : a ≠ 0) (hla : lab a = none) {sz n m : Nat} {c t : List V} (hc : c.length = n * sz) (ht : t.length + n * sz = m * sz) (hnm : n ≤ m) : Hp SZ (s.push (.row (c ++ t))) p R (upd lab a (some s.heap.length)) (updF fs a (some (sz, n, .rsl sz s.heap.length 0 n m, c))) pv al := by
  have hno : NewOr s (s.push (.row (c ++ t))) (lab a) (some s.heap.length) := .inr ⟨_, rfl, Nat.le_refl _, by simp⟩
  exact (h.push _).set ha (h.lone (by simp) hno) ⟨hc, .inr ⟨_, m, t, rfl, rfl, hnm, by rw [row_push_new rfl], ht⟩⟩ (h.sepNew hno)
/-- A list of no label, in no row. -/
theorem Hp.nil (h : Hp SZ s p R lab fs pv al) {a : Nat} (ha : a ≠ 0) {sz : Nat} : Hp SZ s p R (upd lab a none) (updF fs a (some (sz, 0, .d (.sl 0 false []), []))) pv al :=
  h.set ha (fun r hr => by cases hr) (.nil s sz) fun b _ r hr => by cases hr
/-- An element of a list of slices. -/
theorem Hp.get (h : Hp SZ s p R lab fs pv al) {a n : Nat} {v : V} {c : List V} (hf : fs a = some (1, n, v, c)) (i : Nat) {x : V} (hx : c[i]? = some x) {k : IntKind} : ∃ j0 c', lab a = some j0 ∧ iaddrV 1 v (.d (.i k (i : Int))) = some (.ptr j0 i) ∧ s.row j0 = some c' ∧ i + 1 ≤ c'.length ∧ (c'.drop i).take 1 = [x] := (h.lr a _ hf).get i hx
theorem Hp.len (h : Hp SZ s p R lab fs pv al) {a sz n : Nat} {v : V} {c : List V} (hf : fs a = some (sz, n, v, c)) : lenV v = some n := (h.lr a _ hf).len
theorem Hp.one (h : Hp SZ s p R lab fs pv al) {a sz n : Nat} {v : V} {c : List V} (hf : fs a = some (sz, n, v, c)) : v.ok1 = true ∧ v.cs = [v] := by
  obtain ⟨_, ⟨_, hv, _⟩ | ⟨j0, cap, tail, _, hv, _⟩⟩ := h.lr a _ hf <;> (simp only at hv; rw [hv]; exact ⟨rfl, rfl⟩)
/-- An element is written over. -/
theorem Hp.write (h : Hp SZ s p R lab fs pv al) {a sz n : Nat} (ha : a ≠ 0) {v : V} {c : List V} (hf : fs a = some (sz, n, v, c)) {k : Nat} (hk : k < n) {ys : List V} (hy : ys.length = sz) : ∃ j0 c', lab a = some j0 ∧ iaddrV sz v (.d (.i .i64 (k : Int))) = some (.ptr j0 (k * sz)) ∧ s.row j0 = some c' ∧ k * sz + sz ≤ c'.length ∧ c.length = n * sz ∧
    Hp SZ (s.put j0 (lay c' (k * sz) ys)) p R lab (updF fs a (some (sz, n, v, lay c (k * sz) ys))) pv al ∧ Gr s (s.put j0 (lay c' (k * sz) ys)) (fun r => lab a = some r) (· ∈ ys) := by
  have hl := h.lr a _ hf
  obtain ⟨j0, h1, h2⟩ := hl.iaddr (k := .i64) hk
  obtain ⟨h0, ⟨h3, _⟩ | ⟨j1, cap, tail, h3, hv, hc, hrow, ht⟩⟩ := hl
  · rw [h1] at h3; cases h3
  · rw [h1] at h3
    obtain rfl := Option.some.inj h3
    simp only at h0 hrow hv hc ht h2
    have hks : k * sz + sz ≤ n * sz := by
      have := Nat.mul_le_mul_right sz hk
      rw [Nat.succ_mul] at this
      exact this
    have hlen : k * sz + sz ≤ (c ++ tail).length := by rw [List.length_append]; omega
    have hlay : lay (c ++ tail) (k * sz) ys = lay c (k * sz) ys ++ tail := by
      unfold lay
      rw [List.take_append_of_le_length (by omega), List.drop_append_of_le_length (by omega)]
      simp
    have hlc : (lay c (k * sz) ys).length = n * sz := by rw [lay_len' (by omega)]; exact h0
    have g : Gr s (s.put j0 (lay (c ++ tail) (k * sz) ys)) (fun r => lab a = some r) (· ∈ ys) := .put hrow (lay_len' (by omega)) h1 fun i x hx => lay_get hx (by omega)
    refine ⟨j0, _, h1, h2, hrow, hlen, h0, ?_, g⟩
    have hh := h.at ha g (sz := sz) (n := n) (v := v) (c := lay c (k * sz) ys) (j := lab a) ⟨hlc, .inr ⟨j0, cap, tail, h1, hv, hc, by rw [row_put_eq (row_lt hrow), hlay], ht⟩⟩ (.inl rfl)
    rwa [upd_self] at hh
/-- A list that grew out of a label's, or else where: what it holds may not be known. -/
def Semi (SZ : Nat) (K : D → Prop) (s : St) (lab : Nat → Option Nat) (a : Nat) (g : V) (m : Nat) : Prop := (∃ L, Lst s SZ g L ∧ L.length = m * SZ ∧ ∀ d ∈ L, K d) ∧ (foot g = lab a ∨ Free lab g)
theorem Semi.kind {K : D → Prop} {a m : Nat} {g : V} (h : Semi SZ K s lab a g m) (gr : Gr s s' A P) (hP : ∀ x, P x → ∃ d, x = .d d ∧ K d) : Semi SZ K s' lab a g m := by
  obtain ⟨⟨L, h1, h2, h3⟩, h4⟩ := h
  obtain ⟨L', k1, k2, k3⟩ := h1.known h3 gr hP
  exact ⟨⟨L', k1, by omega, k3⟩, h4⟩
end
end Go.Sh
