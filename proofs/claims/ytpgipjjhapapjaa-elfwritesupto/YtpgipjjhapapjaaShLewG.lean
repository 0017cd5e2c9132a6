/- The rack (spindlelaw9): what it holds. -/
import Derived.Test.YtpgipjjhapapjaaShLewF
import Derived.Test.YtpgipjjhapapjaaShFlaw9
import Derived.Test.YtpgipjjhapapjaaShBe
set_option linter.unusedVariables false
set_option linter.unusedSimpArgs false
set_option linter.unusedSectionVars false
namespace Go.Sh
/-! ### Groups of cells, one behind the other -/
def flatN (n : Nat) (f : Nat → List V) : List V := (List.range n).flatMap f
def updN' (f : Nat → List V) (i : Nat) (y : List V) : Nat → List V := fun m => if m = i then y else f m
theorem flatN_len {n k : Nat} {f : Nat → List V} (h : ∀ m, m < n → (f m).length = k) : (flatN n f).length = n * k := by
  induction n with
  | zero => simp [flatN]
  | succ n ih =>
    have := ih fun m hm => h m (by omega)
    unfold flatN at this ⊢
    rw [List.range_succ, List.flatMap_append, List.length_append, this, Nat.add_mul]
    simp [h n (by omega)]
theorem flatN_congr {n : Nat} {f g : Nat → List V} (h : ∀ m, m < n → f m = g m) : flatN n f = flatN n g := by
  induction n with
  | zero => rfl
  | succ n ih =>
    have := ih fun m hm => h m (by omega)
    unfold flatN at this ⊢
    rw [List.range_succ, List.flatMap_append, List.flatMap_append, this]
    simp [h n (by omega)]
theorem flatN_split {n i : Nat} {f : Nat → List V} (hi : i < n) : flatN n f = flatN i f ++ (f i ++ (List.range (n - i - 1)).flatMap fun m => f (i + 1 + m)) := by
  have : n = i + 1 + (n - i - 1) := by omega
  unfold flatN
  conv => lhs; rw [this, List.range_add, List.range_succ]
  simp [List.flatMap_append, List.flatMap_map]
theorem lay_mid {α : Type} {P X Q ys : List α} {o : Nat} (h : o + ys.length ≤ X.length) : lay (P ++ (X ++ Q)) (P.length + o) ys = P ++ (lay X o ys ++ Q) := by
  unfold lay
  have e1 : (P ++ (X ++ Q)).take (P.length + o) = P ++ X.take o := by
    rw [List.take_append, List.take_of_length_le (by omega), show P.length + o - P.length = o by omega, List.take_append_of_le_length (by omega)]
  have e2 : (P ++ (X ++ Q)).drop (P.length + o + ys.length) = X.drop (o + ys.length) ++ Q := by
    rw [Nat.add_assoc, ← List.drop_drop, List.drop_left' rfl, List.drop_append_of_le_length h]
  rw [e1, e2]
  simp
theorem lay_flat {n k i o : Nat} {f : Nat → List V} {ys : List V} (h : ∀ m, m < n → (f m).length = k) (hi : i < n) (ho : o + ys.length ≤ k) : lay (flatN n f) (i * k + o) ys = flatN n (updN' f i (lay (f i) o ys)) := by
  have hl : (flatN i f).length = i * k := flatN_len fun m hm => h m (by omega)
  rw [flatN_split hi, ← hl, lay_mid (by rw [h i hi]; exact ho), flatN_split (f := updN' f i _) hi]
  have e1 : flatN i (updN' f i (lay (f i) o ys)) = flatN i f := flatN_congr fun m hm => by unfold updN'; rw [if_neg (by omega)]
  have e2 : updN' f i (lay (f i) o ys) i = lay (f i) o ys := by unfold updN'; rw [if_pos rfl]
  rw [e1, e2]
  congr 2
  exact flatN_congr (n := n - i - 1) (f := fun m => f (i + 1 + m)) (g := fun m => updN' f i (lay (f i) o ys) (i + 1 + m)) fun m _ => by
    unfold updN'
    rw [if_neg (by omega)]
theorem get_flat {n k i : Nat} {f : Nat → List V} (h : ∀ m, m < n → (f m).length = k) (hi : i < n) {t : List V} : ((flatN n f ++ t).drop (i * k)).take k = f i := by
  have hl : (flatN i f).length = i * k := flatN_len fun m hm => h m (by omega)
  rw [flatN_split hi, List.append_assoc, List.drop_left' hl, List.append_assoc, List.take_left' (h i hi)]
theorem take_flat {n k i : Nat} {f : Nat → List V} (h : ∀ m, m < n → (f m).length = k) (hi : i ≤ n) {t : List V} : (flatN n f ++ t).take (i * k) = flatN i f := by
  have hl : (flatN i f).length = i * k := flatN_len fun m hm => h m (by omega)
  rcases Nat.lt_or_ge i n with h1 | h1
  · rw [flatN_split h1, List.append_assoc, List.take_left' hl]
  · obtain rfl : i = n := by omega
    rw [List.take_left' hl]
/-! ### The rack -/
abbrev Lnd := V × Int × Option Nat
structure Rk where
  L : V
  D : V
  nL : Nat
  jL : Option Nat
  jD : Option Nat
  lb : List Lnd
def lbC (lb : List Lnd) : List V := lb.flatMap fun x => [x.1, .d (.i .i64 x.2.1)]
theorem lbC_len (lb : List Lnd) : (lbC lb).length = lb.length * 2 := by
  induction lb with
  | nil => rfl
  | cons x r ih => simp only [lbC, List.flatMap_cons, List.length_append, List.length_cons, List.length_nil] at ih ⊢; omega
def Rk.lab (p : Nat) (k : Rk) : Nat → Option Nat
  | 0 => some p
  | 1 => k.jL
  | 2 => k.jD
  | n + 3 => (k.lb[n]?).bind (·.2.2)
def LnB (s : St) (x : Lnd) : Prop := (x.2.2 = none ∧ x.1 = .d (.sl 0 false [])) ∨ ∃ r c, x.2.2 = some r ∧ x.1 = .rsl 1 r 0 c.length c.length ∧ s.row r = some c ∧ c.length ≤ 274877906944
structure RkI (s : St) (p : Nat) (k : Rk) : Prop where
  fl : s.floor = 0
  row : s.row p = some [k.L, k.D]
  Lr : (k.jL = none ∧ k.L = .d (.sl 0 false []) ∧ k.nL = 0) ∨ ∃ r c, k.jL = some r ∧ k.L = .rsl 8 r 0 k.nL k.nL ∧ s.row r = some c ∧ c.length = k.nL * 8
  Dr : LR s 2 k.D k.lb.length (lbC k.lb) k.jD
  B : ∀ x ∈ k.lb, LnB s x
  sep : ∀ a c i, k.lab p a = some i → k.lab p c = some i → a = c
  small : k.nL ≤ 4194304 ∧ k.lb.length ≤ 4194304
/-- What stays of the rows. -/
structure Kr (s s' : St) (A : Nat → Prop) : Prop where
  floor : s'.floor = s.floor
  len : s.heap.length ≤ s'.heap.length
  keep : ∀ i, i < s.heap.length → ¬ A i → s'.row i = s.row i
theorem Kr.refl (s : St) (A : Nat → Prop) : Kr s s A := ⟨rfl, Nat.le_refl _, fun _ _ _ => rfl⟩
theorem Kr.trans {a b c : St} {A : Nat → Prop} (h : Kr a b A) (k : Kr b c A) : Kr a c A := ⟨k.floor.trans h.floor, Nat.le_trans h.len k.len, fun i hi ha => (k.keep i (Nat.lt_of_lt_of_le hi h.len) ha).trans (h.keep i hi ha)⟩
theorem Kr.mono {a b : St} {A A' : Nat → Prop} (h : Kr a b A) (ha : ∀ i, i < a.heap.length → A i → A' i) : Kr a b A' := ⟨h.floor, h.len, fun i hi hn => h.keep i hi fun e => hn (ha i hi e)⟩
theorem Kr.push {s : St} {A : Nat → Prop} (b : Blk) : Kr s (s.push b) A := ⟨rfl, by simp, fun i hi _ => row_old hi⟩
theorem Kr.put {s : St} {A : Nat → Prop} {id : Nat} {c : List V} (hA : A id) : Kr s (s.put id c) A := ⟨rfl, by simp, fun i hi hn => row_put_ne fun e => hn (e ▸ hA)⟩
theorem Gr.kr {s s' : St} {A : Nat → Prop} {P : V → Prop} (h : Gr s s' A P) : Kr s s' A := ⟨h.floor, h.len, h.keep⟩
theorem Kp.kr {s s' : St} {A T : Nat → Prop} (h : Kp s s' A T) : Kr s s' A := ⟨h.floor, h.hlen, fun i hi hn => row_of_heap (h.heap i hi hn)⟩
/-- What the rack has become: its rows are those it had, or new ones. -/
def RkF (s s' : St) (p : Nat) (k k' : Rk) : Prop := Kr s s' (fun r => ∃ a, k.lab p a = some r) ∧ ∀ a r, k'.lab p a = some r → (∃ c, k.lab p c = some r) ∨ s.heap.length ≤ r
theorem RkF.refl (s : St) (p : Nat) (k : Rk) : RkF s s p k k := ⟨.refl _ _, fun a r h => .inl ⟨a, h⟩⟩
theorem RkF.trans {s s1 s2 : St} {p : Nat} {k k1 k2 : Rk} (h : RkF s s1 p k k1) (h2 : RkF s1 s2 p k1 k2) : RkF s s2 p k k2 := by
  have hl := h.1.len
  refine ⟨?_, fun a r ha => ?_⟩
  · have g1 := h.1.mono (A' := fun r => (∃ a, k.lab p a = some r) ∨ s.heap.length ≤ r) (fun _ _ e => .inl e)
    have g2 := h2.1.mono (A' := fun r => (∃ a, k.lab p a = some r) ∨ s.heap.length ≤ r) (fun r _ ⟨a, e⟩ => h.2 a r e)
    exact (g1.trans g2).mono (fun r hr e => e.resolve_right (by omega))
  · rcases h2.2 a r ha with ⟨c, e⟩ | e
    · exact h.2 c r e
    · exact .inr (by omega)
theorem lab_lt {s : St} {p : Nat} {k : Rk} (h : RkI s p k) {a r : Nat} (e : k.lab p a = some r) : r < s.heap.length := by
  match a, e with
  | 0, e => obtain rfl := Option.some.inj e; exact row_lt h.row
  | 1, e =>
    rcases h.Lr with ⟨h1, _⟩ | ⟨r', c, h1, _, h2, _⟩
    · simp only [Rk.lab] at e; rw [h1] at e; cases e
    · simp only [Rk.lab] at e; rw [h1] at e; obtain rfl := Option.some.inj e; exact row_lt h2
  | 2, e => exact h.Dr.lt e
  | n + 3, e =>
    simp only [Rk.lab] at e
    obtain ⟨x, hx, hr⟩ := Option.bind_eq_some_iff.1 e
    rcases h.B x (List.mem_of_getElem? hx) with ⟨h1, _⟩ | ⟨r', c, h1, _, h2, _⟩
    · rw [h1] at hr; cases hr
    · rw [h1] at hr; obtain rfl := Option.some.inj hr; exact row_lt h2
theorem lb_lab {p : Nat} {k : Rk} {x : Lnd} (hx : x ∈ k.lb) {r : Nat} (h : x.2.2 = some r) : ∃ n, k.lab p (n + 3) = some r ∧ k.lb[n]? = some x := by
  obtain ⟨n, hn⟩ := List.mem_iff_getElem?.1 hx
  exact ⟨n, by simp [Rk.lab, hn, h], hn⟩
/-- Rows of others: the rack stays. -/
theorem RkI.gr {s s' : St} {p : Nat} {k : Rk} {A : Nat → Prop} (h : RkI s p k) (g : Kr s s' A) (ha : ∀ a r, k.lab p a = some r → ¬ A r) : RkI s' p k := by
  have hk : ∀ a r, k.lab p a = some r → s'.row r = s.row r := fun a r e => g.keep r (lab_lt h e) (ha a r e)
  refine ⟨g.floor.trans h.fl, (hk 0 p rfl).trans h.row, ?_, h.Dr.row fun r e => hk 2 r e, fun x hx => ?_, h.sep, h.small⟩
  · rcases h.Lr with h1 | ⟨r, c, h1, h2, h3, h4⟩
    · exact .inl h1
    · exact .inr ⟨r, c, h1, h2, (hk 1 r h1).trans h3, h4⟩
  · rcases h.B x hx with h1 | ⟨r, c, h1, h2, h3, h4⟩
    · exact .inl h1
    · obtain ⟨n, hn, _⟩ := lb_lab (p := p) hx h1
      exact .inr ⟨r, c, h1, h2, (hk _ r hn).trans h3, h4⟩
/-- The list's cells are written over. -/
theorem RkI.putL {s : St} {p r : Nat} {k : Rk} {c' : List V} (h : RkI s p k) (hj : k.jL = some r) (hc : c'.length = k.nL * 8) : RkI (s.put r c') p k ∧ RkF s (s.put r c') p k k := by
  obtain ⟨c, h1, h2, h3⟩ : ∃ c, k.L = .rsl 8 r 0 k.nL k.nL ∧ s.row r = some c ∧ c.length = k.nL * 8 := by
    rcases h.Lr with ⟨e, _⟩ | ⟨r', c, e, h1, h2, h3⟩
    · rw [hj] at e; cases e
    · rw [hj] at e; obtain rfl := Option.some.inj e; exact ⟨c, h1, h2, h3⟩
  have hne : ∀ a q, k.lab p a = some q → a ≠ 1 → q ≠ r := fun a q e hn e2 => hn (h.sep a 1 q e (by rw [e2]; exact hj))
  refine ⟨⟨h.fl, ?_, .inr ⟨r, c', hj, h1, row_put_eq (row_lt h2), hc⟩, h.Dr.row fun q e => row_put_ne (hne 2 q e (by decide)), fun x hx => ?_, h.sep, h.small⟩, ?_, fun a q e => .inl ⟨a, e⟩⟩
  · rw [row_put_ne (hne 0 p rfl (by decide))]; exact h.row
  · rcases h.B x hx with h1 | ⟨q, c, h1, h2, h3, h4⟩
    · exact .inl h1
    · obtain ⟨n, hn, _⟩ := lb_lab (p := p) hx h1
      exact .inr ⟨q, c, h1, h2, by rw [row_put_ne (hne _ q hn (by omega))]; exact h3, h4⟩
  · exact .put ⟨1, hj⟩
theorem CallW.mute {Pr : Prog} {f f' : Nat} {fn fn' : SFn} {args : List V} {st st' : St} {v : V} (hf : Pr.fn f = some fn) (hf' : Pr.fn f' = some fn') (hn : args.length = fn.nparams) (hn' : fn'.nparams = fn.nparams) (hb : fn'.body = fn.body) (hr : fn'.results = fn.results) (hs : fn.shut = false) (hp : fn.pure = false) (hp' : fn'.pure = false)
    (h : den Pr f args st = some (v, st')) : CallW Pr f' args st fun v' s' => v' = v ∧ s' = st' := by
  rw [den_fn hf hn hs] at h
  refine CallW.of_body hf' (by rw [hn, hn']) ?_
  have hst : start fn' st = start fn st := by unfold start; rw [hp, hp']
  rw [hb, hst]
  unfold finish at h
  split at h
  · cases h
  · rename_i x e s1 hx hc
    refine CodeW.of_cden hc ?_
    split at h
    · rename_i u hu
      rw [if_neg (by simp [hp])] at h
      simp only [Option.some.injEq, Prod.mk.injEq] at h
      obtain ⟨rfl, rfl⟩ := h
      have : ∃ v, resV e s1 fn'.results = some v ∧ (if fn'.pure then ∃ z, esc s1 st.heap.length st.tips.length v = some z ∧ (z = u ∧ st = s1) else (v = u ∧ s1 = s1)) := ⟨u, by rw [hr]; exact hu, by rw [if_neg (by simp [hp'])]; exact ⟨rfl, rfl⟩⟩
      cases x with
      | exit i => exact (hx i rfl).elim
      | normal => exact this
      | ret => exact this
    · cases h
  · cases h
end Go.Sh
