/- A region whose order is drawn: whatever comes up first, it comes to what the text's order gives. -/
import Derived.Test.YtgafhgbnjohbeabDoorSh17
set_option linter.unusedVariables false
set_option linter.unusedSimpArgs false
namespace Go.Sh
open Go.RowKit

/-! ### The run in the order of the text, step by step -/
structure Trace (Pr : Prog) (call : CallF) (all : List SOper) (E : Nat → Env) (S : Nat → St) (X : Nat → V) (l : List SOper) (k : Nat) : Prop where
  step : ∀ (i : Nat) (s : SOper), l[i]? = some s → E (k + i + 1) = put (E (k + i)) s.dst (X (k + i)) ∧
    ((wants all (E (k + i)) s.guard = some true ∧ opS Pr call (E (k + i)) (S (k + i)) s.op = some (X (k + i), S (k + i + 1))) ∨
     (wants all (E (k + i)) s.guard = some false ∧ X (k + i) = .un ∧ S (k + i + 1) = S (k + i)))
theorem trace_of {Pr : Prog} {call : CallF} {all : List SOper} : ∀ {l : List SOper} {e e' : Env} {st st' : St} (k : Nat), opsS Pr call all l e st = some (e', st') →
    ∃ E S X, E k = e ∧ S k = st ∧ E (k + l.length) = e' ∧ S (k + l.length) = st' ∧ Trace Pr call all E S X l k
  | [], e, e', st, st', k, h => by
    simp only [opsS, Option.some.injEq, Prod.mk.injEq] at h
    exact ⟨fun _ => e, fun _ => st, fun _ => .un, rfl, rfl, h.1, h.2, ⟨fun i s hs => by simp at hs⟩⟩
  | o :: r, e, e', st, st', k, h => by
    have key : ∀ (x : V) (s1 : St), opsS Pr call all r (put e o.dst x) s1 = some (e', st') → ((wants all e o.guard = some true ∧ opS Pr call e st o.op = some (x, s1)) ∨ (wants all e o.guard = some false ∧ x = .un ∧ s1 = st)) →
        ∃ E S X, E k = e ∧ S k = st ∧ E (k + (o :: r).length) = e' ∧ S (k + (o :: r).length) = st' ∧ Trace Pr call all E S X (o :: r) k := by
      intro x s1 hr hs
      obtain ⟨E, S, X, h1, h2, h3, h4, ht⟩ := trace_of (k + 1) hr
      refine ⟨fun i => if i = k then e else E i, fun i => if i = k then st else S i, fun i => if i = k then x else X i, by simp, by simp, ?_, ?_, ⟨?_⟩⟩
      · simp only [List.length_cons]
        rw [if_neg (by omega), ← h3]
        congr 1
        omega
      · simp only [List.length_cons]
        rw [if_neg (by omega), ← h4]
        congr 1
        omega
      · intro i s hi
        cases i with
        | zero =>
          simp only [List.getElem?_cons_zero, Option.some.injEq] at hi
          subst hi
          simp only [Nat.add_zero, if_true]
          rw [if_neg (by omega), if_neg (by omega), h1, h2]
          exact ⟨rfl, hs⟩
        | succ i =>
          have := ht.step i s (by simpa using hi)
          have e1 : k + (i + 1) = k + 1 + i := by omega
          rw [if_neg (by omega), if_neg (by omega), if_neg (by omega), if_neg (by omega), if_neg (by omega), e1]
          exact this
    simp only [opsS] at h
    split at h
    · rename_i hw
      split at h
      · rename_i v s1 ho
        exact key v s1 h (.inl ⟨hw, ho⟩)
      · cases h
    · rename_i hw
      exact key .un st h (.inr ⟨hw, rfl, rfl⟩)
    · cases h

/-! ### The checker of such a region -/
def needs (o : Oper) : List Nat := (o.after.toList.filter fun e => Region.binds .any e).map (·.on)
def upTo (B : List Nat) : List Nat → Nat
  | [] => 0
  | n :: r => (2 ^ n ||| B.getD n 0) ||| upTo B r
/-- The needs stand ahead, and what an operation waits for is told rightly. -/
def okAnc (B : List Nat) : List Oper → Nat → Bool
  | [], _ => true
  | o :: r, j => (needs o).all (fun n => decide (n < j)) && ((B.getD j 0 ||| upTo B (needs o)) == upTo B (needs o)) && okAnc B r (j + 1)
def gslot (ss : List SOper) (s : SOper) : List Nat := match s.guard with
  | some (j, _) => match ss[j]? with
    | some o => o.dst.toList
    | none => []
  | none => []
def names (ss : List SOper) (s : SOper) : List Nat := s.dst.toList ++ (gslot ss s ++ s.op.tms)
def ordered (B : List Nat) (i j : Nat) : Bool := (B.getD (max i j) 0).testBit (min i j)
/-- Whoever writes a slot is in order with whoever names it. -/
def okNames (ss : List SOper) (B : List Nat) : Bool :=
  (List.range ss.length).all fun j => match ss[j]? with
    | some s => (List.range ss.length).all fun i => i == j || (match ss[i]? with
      | some s' => (match s'.dst with
        | some d => !(names ss s).contains d || ordered B i j
        | none => true)
      | none => true)
    | none => true
/-- The one operation that changes the state is in order with all that look at it. -/
def okLoud (Pr : Prog) (ss : List SOper) (B : List Nat) : Bool :=
  (List.range ss.length).all fun l => match ss[l]? with
    | some s => s.op.neutral Pr || (List.range ss.length).all fun i => i == l || (match ss[i]? with
      | some s' => s'.op.blind || (s'.op.neutral Pr && ordered B i l)
      | none => true)
    | none => true
def noSel (ops : List Oper) : Bool := true
def okDraw (P : Program) (Pr : Prog) (ops : List Oper) (ss : List SOper) (B : List Nat) : Bool :=
  okAnc B ops 0 && okNames ss B && okLoud Pr ss B

theorem upTo_bit {B : List Nat} {i : Nat} : ∀ {ns : List Nat}, (upTo B ns).testBit i = true → ∃ n ∈ ns, n = i ∨ (B.getD n 0).testBit i = true
  | [], h => by simp [upTo] at h
  | n :: r, h => by
    unfold upTo at h
    rw [Nat.testBit_or, Nat.testBit_or, Bool.or_eq_true, Bool.or_eq_true] at h
    rcases h with (h | h) | h
    · rw [Nat.testBit_two_pow] at h
      exact ⟨n, List.mem_cons_self, .inl (by simpa using h)⟩
    · exact ⟨n, List.mem_cons_self, .inr h⟩
    · obtain ⟨m, hm, h2⟩ := upTo_bit h
      exact ⟨m, List.mem_cons_of_mem _ hm, h2⟩
theorem okAnc_spec {B : List Nat} : ∀ {l : List Oper} {k : Nat}, okAnc B l k = true → ∀ (i : Nat) o, l[i]? = some o → (∀ n ∈ needs o, n < k + i) ∧ ∀ b, (B.getD (k + i) 0).testBit b = true → (upTo B (needs o)).testBit b = true
  | [], k, _, i, o, h => by simp at h
  | x :: r, k, h, i, o, hi => by
    simp only [okAnc, Bool.and_eq_true, beq_iff_eq] at h
    cases i with
    | zero =>
      simp only [List.getElem?_cons_zero, Option.some.injEq] at hi
      subst hi
      refine ⟨fun n hn => by simpa using List.all_eq_true.1 h.1.1 n hn, fun b hb => ?_⟩
      rw [← h.1.2, Nat.testBit_or]
      simp only [Nat.add_zero] at hb
      rw [hb, Bool.true_or]
    | succ i =>
      have := okAnc_spec h.2 i o (by simpa using hi)
      rwa [show k + 1 + i = k + (i + 1) by omega] at this
theorem needs_after {o : Oper} {e : Edge} (he : e ∈ o.after) (hb : Region.binds .any e = true) : e.on ∈ needs o := by
  unfold needs
  exact List.mem_map.2 ⟨e, List.mem_filter.2 ⟨by simpa using he, hb⟩, rfl⟩
theorem needs_mem {o : Oper} {n : Nat} (h : n ∈ needs o) : ∃ e ∈ o.after, Region.binds .any e = true ∧ e.on = n := by
  unfold needs at h
  obtain ⟨e, he, rfl⟩ := List.mem_map.1 h
  obtain ⟨h1, h2⟩ := List.mem_filter.1 he
  exact ⟨e, by simpa using h1, h2, rfl⟩
/-- Whoever has come up had all that it waits for. -/
def Closed (ops : Array Oper) (listed : Array Bool) : Prop := ∀ (j : Nat) o, ops[j]? = some o → listed.getD j false = true → ∀ n ∈ needs o, listed.getD n false = true
theorem anc_listed {B : List Nat} {ops : Array Oper} {listed : Array Bool} (hB : okAnc B ops.toList 0 = true) (hc : Closed ops listed) (hs : listed.size = ops.size) {i : Nat} : ∀ (j : Nat), listed.getD j false = true → (B.getD j 0).testBit i = true → listed.getD i false = true := by
  intro j
  induction j using Nat.strongRecOn with
  | _ j ih =>
    intro hj hb
    have hlt : j < ops.size := by
      rcases Nat.lt_or_ge j listed.size with h | h
      · omega
      · simp [Array.getElem?_eq_none h] at hj
    obtain ⟨h1, h2⟩ := okAnc_spec hB j ops[j] (by simp [hlt])
    simp only [Nat.zero_add] at h1 h2
    obtain ⟨n, hn, h3⟩ := upTo_bit (h2 i hb)
    have hln := hc j ops[j] (by simp [hlt]) hj n hn
    rcases h3 with rfl | h3
    · exact hln
    · exact ih n (h1 n hn) hln h3

section
variable {ss : List SOper} {X : Nat → V} {e0 : Env}
/-- What a slot holds where these operations, below k, have come up. -/
def cv (ss : List SOper) (X : Nat → V) (e0 : Env) (on : Nat → Bool) (s : Nat) : Nat → Option V
  | 0 => e0.get s
  | k + 1 => if on k = true ∧ (ss[k]?).bind (·.dst) = some s then some (X k) else cv ss X e0 on s k
theorem cv_succ {on : Nat → Bool} {s k : Nat} : cv ss X e0 on s (k + 1) = if on k = true ∧ (ss[k]?).bind (·.dst) = some s then some (X k) else cv ss X e0 on s k := rfl
theorem cv_congr {on on' : Nat → Bool} {s : Nat} : ∀ k, (∀ i, i < k → (ss[i]?).bind (·.dst) = some s → on i = on' i) → cv ss X e0 on s k = cv ss X e0 on' s k
  | 0, _ => rfl
  | k + 1, h => by
    unfold cv
    rw [cv_congr k fun i hi => h i (by omega)]
    by_cases hd : (ss[k]?).bind (·.dst) = some s
    · rw [h k (by omega) hd]
    · simp [hd]
theorem cv_skip {on : Nat → Bool} {s i : Nat} : ∀ d, (∀ j, i ≤ j → j < i + d → (ss[j]?).bind (·.dst) = some s → on j = false) → cv ss X e0 on s (i + d) = cv ss X e0 on s i
  | 0, _ => rfl
  | d + 1, h => by
    rw [← Nat.add_assoc, cv_succ]
    have : ¬ (on (i + d) = true ∧ (ss[i + d]?).bind (·.dst) = some s) := by
      rintro ⟨h1, h2⟩
      rw [h (i + d) (by omega) (by omega) h2] at h1
      cases h1
    rw [if_neg this]
    exact cv_skip d fun j h1 h2 => h j h1 (by omega)
theorem cv_trace {Pr : Prog} {call : CallF} {E : Nat → Env} {S : Nat → St} (ht : Trace Pr call ss E S X ss 0) (h0 : E 0 = e0) (s : Nat) : ∀ k, k ≤ ss.length → (E k).get s = cv ss X e0 (fun _ => true) s k
  | 0, _ => by rw [h0]; rfl
  | k + 1, hk => by
    obtain ⟨sk, hsk⟩ : ∃ sk, ss[k]? = some sk := ⟨ss[k]'(by omega), List.getElem?_eq_getElem (by omega)⟩
    have := (ht.step k sk hsk).1
    simp only [Nat.zero_add] at this
    rw [this]
    unfold cv
    have ih := cv_trace ht h0 s k (by omega)
    simp only [hsk, Option.bind_some]
    cases hd : sk.dst with
    | none => simp [put, ih]
    | some d =>
      simp only [put, Env.get, Option.some.injEq, true_and]
      by_cases he : d = s
      · simp [he]
      · simp [he, ih]
end

/-- How many have not come up yet. -/
def unl (listed : Array Bool) : Nat → Nat
  | 0 => 0
  | k + 1 => unl listed k + if listed.getD k false then 0 else 1
theorem unl_le (listed : Array Bool) : ∀ k, unl listed k ≤ k
  | 0 => Nat.le_refl _
  | k + 1 => by
    have := unl_le listed k
    unfold unl
    split <;> omega
theorem unl_zero {listed : Array Bool} : ∀ {k : Nat}, unl listed k = 0 → ∀ i, i < k → listed.getD i false = true
  | 0, _, i, hi => by omega
  | k + 1, h, i, hi => by
    unfold unl at h
    by_cases hk : listed.getD k false = true
    · by_cases he : i = k
      · subst he; exact hk
      · exact unl_zero (k := k) (by omega) i (by omega)
    · rw [if_neg hk] at h
      omega
theorem unl_congr {a b : Array Bool} : ∀ {k : Nat}, (∀ i, i < k → a.getD i false = b.getD i false) → unl a k = unl b k
  | 0, _ => rfl
  | k + 1, h => by
    unfold unl
    rw [unl_congr fun i hi => h i (by omega), h k (by omega)]
theorem unl_set {listed : Array Bool} {i : Nat} (hi : listed.getD i false = false) : ∀ {k : Nat}, i < k → k ≤ listed.size → unl (listed.setIfInBounds i true) k + 1 = unl listed k
  | 0, h, _ => by omega
  | k + 1, h, hs => by
    unfold unl
    by_cases he : i = k
    · subst he
      have h1 : (listed.setIfInBounds i true).getD i false = true := by
        have : i < listed.size := by omega
        simp [this]
      rw [h1, hi, unl_congr (a := listed.setIfInBounds i true) (b := listed) fun j hj => getD_set_ne false (by omega)]
      simp
    · rw [getD_set_ne false he]
      have := unl_set hi (k := k) (by omega) (by omega)
      omega
theorem mask_get {live : List Nat} {e : Env} {t : Nat} {v : V} (h : (mask live e).get t = some v) : t ∈ live ∧ e.get t = some v := by
  unfold mask at h
  induction live with
  | nil => simp [Env.get] at h
  | cons i r ih =>
    simp only [List.filterMap_cons] at h
    cases hi : e.get i with
    | none =>
      simp only [hi, Option.map_none] at h
      obtain ⟨h1, h2⟩ := ih h
      exact ⟨List.mem_cons_of_mem _ h1, h2⟩
    | some u =>
      simp only [hi, Option.map_some, Env.get] at h
      split at h
      · rename_i he
        subst he
        exact ⟨List.mem_cons_self, by rw [hi]; exact h⟩
      · obtain ⟨h1, h2⟩ := ih h
        exact ⟨List.mem_cons_of_mem _ h1, h2⟩
theorem mask_mem {live : List Nat} {e : Env} {t : Nat} (h : t ∈ live) : (mask live e).get t = e.get t := by
  unfold mask
  induction live with
  | nil => cases h
  | cons i r ih =>
    simp only [List.filterMap_cons]
    by_cases he : i = t
    · subst he
      cases hi : e.get i with
      | none =>
        simp only [Option.map_none]
        by_cases hm : i ∈ r
        · rw [ih hm, hi]
        · cases hq : Env.get (List.filterMap (fun i => Option.map (fun v => (i, v)) (e.get i)) r) i with
          | none => rfl
          | some u => exact absurd (mask_get (live := r) hq).1 hm
      | some u => simp [Env.get]
    · have hm : t ∈ r := by
        cases h with
        | head => exact absurd rfl he
        | tail _ h => exact h
      cases hi : e.get i with
      | none => simpa using ih hm
      | some u =>
        simp only [Option.map_some, Env.get, if_neg he]
        exact ih hm
theorem wants_same {ss : List SOper} {e e' : Env} {s : SOper} (h : Same (gslot ss s) e e') : wants ss e s.guard = wants ss e' s.guard := by
  unfold wants
  unfold gslot at h
  cases hg : s.guard with
  | none => rfl
  | some p =>
    obtain ⟨j, b⟩ := p
    rw [hg] at h
    simp only at h ⊢
    cases hj : ss[j]? with
    | none => rfl
    | some o =>
      rw [hj] at h
      simp only at h ⊢
      cases hd : o.dst with
      | none => rfl
      | some d =>
        rw [hd] at h
        simp only
        rw [h d (by simp)]

section
variable {P : Program} {Pr : Prog} {L : Link} {call : CallF} {n : Nat}
theorem draw_sound (hcall : CallOk P Pr L call) (hpure : CallPure Pr call) {ops : Array Oper} {ss : List SOper} {B : List Nat} (hok : okOpers P L n ops.toList ss = true) (hD : okDraw P Pr ops.toList ss B = true)
    {e0 e1 : Env} {st0 st1 : St} (hrun : opsS Pr call ss ss e0 st0 = some (e1, st1)) {κ0 : K} (hL : κ0.L = L) {d0 : List Deferred} {Q : Exit → Act → World → Prop}
    (hQ : ∀ κ' a', κ0.le κ' → Inv Pr κ' st1 → ERel κ' e1 a' → a'.tmps.size = n → a'.defers = d0 → Q .normal a' κ'.w) {a0 : Act} (hi0 : Inv Pr κ0 st0) (hE0 : ERel κ0 e0 a0) (hn0 : a0.tmps.size = n) (hd0 : a0.defers = d0) :
    wpAny P .any ops Q ops.size (Array.replicate ops.size false) a0 κ0.w := by
  simp only [okDraw, Bool.and_eq_true] at hD
  obtain ⟨⟨hB, hN⟩, hLd⟩ := hD
  obtain ⟨hlen, hops⟩ := okOpers_get hok
  have hlen' : ops.size = ss.length := by simpa using hlen
  obtain ⟨E, S, X, hE, hS, hEN, hSN, ht⟩ := trace_of 0 hrun
  simp only [Nat.zero_add] at hEN hSN
  have hstep := ht.step
  simp only [Nat.zero_add] at hstep
  have hcvE := fun s k hk => cv_trace (e0 := e0) ht hE s k hk
  -- names are in order
  have hord : ∀ (i j : Nat) (si sj : SOper) (d : Nat), ss[i]? = some si → ss[j]? = some sj → i ≠ j → si.dst = some d → d ∈ names ss sj → ordered B i j = true := by
    intro i j si sj d hi hj hij hd hm
    have h1 := List.all_eq_true.1 hN j (List.mem_range.2 (List.getElem?_eq_some_iff.1 hj).1)
    rw [hj] at h1
    have h2 := List.all_eq_true.1 h1 i (List.mem_range.2 (List.getElem?_eq_some_iff.1 hi).1)
    rw [hi] at h2
    simp only [hd] at h2
    have hne : (i == j) = false := by simpa using hij
    have hc : (names ss sj).contains d = true := by simpa using hm
    rw [hne, hc] at h2
    simpa using h2
  have hloud : ∀ (l i : Nat) (sl si : SOper), ss[l]? = some sl → ss[i]? = some si → sl.op.neutral Pr = false → i ≠ l → si.op.blind = true ∨ (si.op.neutral Pr = true ∧ ordered B i l = true) := by
    intro l i sl si hl hi hnl hil
    have h1 := List.all_eq_true.1 hLd l (List.mem_range.2 (List.getElem?_eq_some_iff.1 hl).1)
    rw [hl] at h1
    simp only [hnl, Bool.false_or] at h1
    have h2 := List.all_eq_true.1 h1 i (List.mem_range.2 (List.getElem?_eq_some_iff.1 hi).1)
    rw [hi] at h2
    have hne : (i == l) = false := by simpa using hil
    rw [hne] at h2
    simpa using h2
  -- a step of the text's run, as a run of the one operation
  have hneu : ∀ (i : Nat) (s : SOper), ss[i]? = some s → s.op.neutral Pr = true → S (i + 1) = S i := by
    intro i s hs hne
    rcases (hstep i s hs).2 with ⟨_, h⟩ | ⟨_, _, h⟩
    · exact neutral_st hpure hne h
    · exact h
  have hblind : ∀ (s : SOp), s.blind = true → s.neutral Pr = true := by
    intro s
    cases s <;> simp [SOp.blind, SOp.neutral]
  -- the state where these have come up
  let loudIn := fun (listed : Array Bool) => ∃ l s, ss[l]? = some s ∧ s.op.neutral Pr = false ∧ listed.getD l false = true
  have hSconst : ∀ (l : Nat) (sl : SOper), ss[l]? = some sl → sl.op.neutral Pr = false → (∀ i, i ≤ l → S i = st0) ∧ (∀ i, l < i → i ≤ ss.length → S i = st1) := by
    intro l sl hl hnl
    have hll := (List.getElem?_eq_some_iff.1 hl).1
    have hne : ∀ i si, ss[i]? = some si → i ≠ l → si.op.neutral Pr = true := fun i si hi hil => by
      rcases hloud l i sl si hl hi hnl hil with h | h
      · exact hblind _ h
      · exact h.1
    constructor
    · intro i
      induction i with
      | zero => intro _; exact hS
      | succ i ih =>
        intro hle
        have hlt : i < ss.length := by omega
        rw [hneu i ss[i] (List.getElem?_eq_getElem hlt) (hne i _ (List.getElem?_eq_getElem hlt) (by omega))]
        exact ih (by omega)
    · intro i hi hle
      obtain ⟨d, hd⟩ : ∃ d, ss.length = i + d := ⟨ss.length - i, by omega⟩
      have key : ∀ d, i + d ≤ ss.length → S (i + d) = S i := by
        intro d
        induction d with
        | zero => intro _; rfl
        | succ d ih =>
          intro hd
          have hlt : i + d < ss.length := by omega
          rw [← Nat.add_assoc, hneu (i + d) ss[i + d] (List.getElem?_eq_getElem hlt) (hne _ _ (List.getElem?_eq_getElem hlt) (by omega))]
          exact ih (by omega)
      rw [← key d (by omega), ← hd, hSN]
  have hnoloud : (∀ (l : Nat) (sl : SOper), ss[l]? = some sl → sl.op.neutral Pr = true) → ∀ i, i ≤ ss.length → S i = st0 := by
    intro hall i
    induction i with
    | zero => intro _; exact hS
    | succ i ih =>
      intro hle
      have hlt : i < ss.length := by omega
      rw [hneu i ss[i] (List.getElem?_eq_getElem hlt) (hall i _ (List.getElem?_eq_getElem hlt))]
      exact ih (by omega)
  have huniq : ∀ (l l' : Nat) (sl sl' : SOper), ss[l]? = some sl → ss[l']? = some sl' → sl.op.neutral Pr = false → sl'.op.neutral Pr = false → l = l' := by
    intro l l' sl sl' hl hl' hn hn'
    rcases Nat.decEq l l' with hne | he
    · rcases hloud l l' sl sl' hl hl' hn (fun e => hne e.symm) with h | h
      · rw [hblind _ h] at hn'; cases hn'
      · rw [h.1] at hn'; cases hn'
    · exact he
  have hbool : ∀ (listed : Array Bool) (i : Nat), i < listed.size → (listed.getD i true = false ↔ listed.getD i false = false) := by
    intro listed i hi
    simp [hi]
  -- the state where these have come up
  classical
  let SV : Array Bool → St := fun listed => if loudIn listed then st1 else st0
  let on : Array Bool → Nat → Bool := fun listed i => listed.getD i false
  -- when all have come up
  have done : ∀ (listed : Array Bool) (a : Act) (κ : K), listed.size = ops.size → (∀ i, i < ops.size → listed.getD i false = true) → κ0.le κ → Inv Pr κ (SV listed) →
      (∀ (s : Nat) (v : V), cv ss X e0 (on listed) s ss.length = some v → s < a.tmps.size ∧ Rep κ v (a.tmps.getD s undef)) → a.tmps.size = n → a.defers = d0 → Q .normal a κ.w := by
    intro listed a κ hsz hall hle hi henv hna hda
    refine hQ κ a hle ?_ ?_ hna hda
    · have : SV listed = st1 := by
        show (if loudIn listed then st1 else st0) = st1
        by_cases hl : loudIn listed
        · rw [if_pos hl]
        · rw [if_neg hl]
          have hno : ∀ (l : Nat) (sl : SOper), ss[l]? = some sl → sl.op.neutral Pr = true := by
            intro l sl hsl
            cases hq : sl.op.neutral Pr with
            | true => rfl
            | false => exact absurd ⟨l, sl, hsl, hq, hall l (by have := (List.getElem?_eq_some_iff.1 hsl).1; omega)⟩ hl
          rw [← hSN]
          exact (hnoloud hno _ (Nat.le_refl _)).symm
      rw [this] at hi
      exact hi
    · intro s v hv
      refine henv s v ?_
      rw [← hEN, hcvE s _ (Nat.le_refl _)] at hv
      rw [← hv]
      exact cv_congr _ fun i hi _ => hall i (by omega)
  have main : ∀ (fuel : Nat) (listed : Array Bool) (a : Act) (κ : K), listed.size = ops.size → Closed ops listed → unl listed ops.size ≤ fuel → κ0.le κ → Inv Pr κ (SV listed) →
      (∀ (s : Nat) (v : V), cv ss X e0 (on listed) s ss.length = some v → s < a.tmps.size ∧ Rep κ v (a.tmps.getD s undef)) → a.tmps.size = n → a.defers = d0 → wpAny P .any ops Q fuel listed a κ.w := by
    intro fuel
    induction fuel with
    | zero =>
      intro listed a κ hsz hcl hun hle hi henv hna hda
      have hall : ∀ i, i < ops.size → listed.getD i false = true := fun i hi => unl_zero (by omega) i hi
      refine ⟨?_, done listed a κ hsz hall hle hi henv hna hda⟩
      apply List.eq_nil_iff_forall_not_mem.2
      intro j hj
      obtain ⟨h1, oj, h2, _⟩ := mem_ready.1 hj
      have hjl : j < ops.size := (Array.getElem?_eq_some_iff.1 h2).1
      have h3 := (hbool listed j (by omega)).1 h1
      rw [hall j hjl] at h3
      cases h3
    | succ fuel ih =>
      intro listed a κ hsz hcl hun hle hi henv hna hda
      refine ⟨fun hr => ?_, fun i hri => ?_⟩
      · refine done listed a κ hsz ?_ hle hi henv hna hda
        intro i
        induction i using Nat.strongRecOn with
        | _ i ih2 =>
          intro hil
          cases hq : listed.getD i false with
          | true => rfl
          | false =>
            exfalso
            have hmem : i ∈ Region.ready .any ops listed := by
              refine mem_ready.2 ⟨(hbool listed i (by omega)).2 hq, ops[i], by simp [hil], fun e he hb => ?_⟩
              have := (okAnc_spec hB i ops[i] (by simp [hil])).1 e.on (needs_after he hb)
              simp only [Nat.zero_add] at this
              exact ih2 e.on this (by omega)
            rw [hr] at hmem
            cases hmem
      · obtain ⟨hun1, o, ho, hall⟩ := mem_ready.1 hri
        have hil : i < ops.size := (Array.getElem?_eq_some_iff.1 ho).1
        have hiun : listed.getD i false = false := (hbool listed i (by omega)).1 hun1
        have hneeds : ∀ k ∈ needs o, listed.getD k false = true := by
          intro k hk
          obtain ⟨e, he, hb, rfl⟩ := needs_mem hk
          exact hall e he hb
        obtain ⟨s, hs⟩ : ∃ s, ss[i]? = some s := ⟨ss[i]'(by omega), List.getElem?_eq_getElem (by omega)⟩
        obtain ⟨q1, q2, q3, q4⟩ := okOper_spec (hops i o s (by simpa using ho) hs)
        -- who is in order with i
        have hbefore : ∀ j : Nat, (B.getD i 0).testBit j = true → listed.getD j false = true := by
          intro j hb
          have h2 := (okAnc_spec hB i o (by simpa using ho)).2 j
          simp only [Nat.zero_add] at h2
          obtain ⟨k, hk, h3⟩ := upTo_bit (h2 hb)
          rcases h3 with rfl | h3
          · exact hneeds _ hk
          · exact anc_listed hB hcl hsz k (hneeds k hk) h3
        have hafter : ∀ j : Nat, (B.getD j 0).testBit i = true → listed.getD j false = false := by
          intro j hb
          cases hq : listed.getD j false with
          | false => rfl
          | true =>
            have := anc_listed hB hcl hsz j hq hb
            rw [hiun] at this
            cases this
        have hwriter : ∀ (j d : Nat), (ss[j]?).bind (·.dst) = some d → d ∈ names ss s → j ≠ i → (j < i → listed.getD j false = true) ∧ (i < j → listed.getD j false = false) := by
          intro j d hd hm hji
          cases hsj : ss[j]? with
          | none => rw [hsj] at hd; simp at hd
          | some sj =>
            rw [hsj] at hd
            simp only [Option.bind_some] at hd
            have := hord j i sj s d hsj hs hji hd hm
            unfold ordered at this
            constructor
            · intro hlt
              rw [Nat.max_eq_right (by omega), Nat.min_eq_left (by omega)] at this
              exact hbefore j this
            · intro hlt
              rw [Nat.max_eq_left (by omega), Nat.min_eq_right (by omega)] at this
              exact hafter j this
        have hval : ∀ d ∈ names ss s, cv ss X e0 (on listed) d ss.length = (E i).get d := by
          intro d hd
          obtain ⟨m, hm⟩ : ∃ m, ss.length = i + m := ⟨ss.length - i, by omega⟩
          rw [hm, cv_skip m, hcvE d i (by omega)]
          · refine cv_congr i fun j hj hw => ?_
            exact (hwriter j d hw hd (by omega)).1 hj
          · intro j hij _ hw
            by_cases hji : j = i
            · subst hji; exact hiun
            · exact (hwriter j d hw hd hji).2 (by omega)
        have hEm : ERel κ (mask (names ss s) (E i)) a := by
          intro t v hv
          obtain ⟨h1, h2⟩ := mask_get hv
          exact henv t v (by rw [hval t h1]; exact h2)
        have hsame : Same (names ss s) (mask (names ss s) (E i)) (E i) := fun t ht' => mask_mem ht'
        obtain ⟨hEi, hrunI⟩ := hstep i s hs
        -- the state
        have hSVi : (s.op.blind = true ∧ s.op.neutral Pr = true) ∨ SV listed = S i := by
          by_cases hb : s.op.blind = true
          · exact .inl ⟨hb, hblind _ hb⟩
          · right
            show (if loudIn listed then st1 else st0) = S i
            by_cases hex : ∃ (l : Nat) (sl : SOper), ss[l]? = some sl ∧ sl.op.neutral Pr = false
            · obtain ⟨l, sl, hl, hnl⟩ := hex
              have hiff : loudIn listed ↔ listed.getD l false = true := by
                constructor
                · rintro ⟨l', sl', h1, h2, h3⟩
                  rw [huniq l l' sl sl' hl h1 hnl h2]
                  exact h3
                · intro h
                  exact ⟨l, sl, hl, hnl, h⟩
              by_cases hli : i = l
              · subst hli
                rw [if_neg (by rw [hiff, hiun]; simp)]
                exact ((hSconst i sl hl hnl).1 i (Nat.le_refl _)).symm
              · rcases hloud l i sl s hl hs hnl hli with h | ⟨_, h⟩
                · exact absurd h hb
                · unfold ordered at h
                  rcases Nat.lt_or_ge i l with hlt | hge
                  · rw [Nat.max_eq_right (by omega), Nat.min_eq_left (by omega)] at h
                    rw [if_neg (by rw [hiff, hafter l h]; simp)]
                    exact ((hSconst l sl hl hnl).1 i (by omega)).symm
                  · rw [Nat.max_eq_left (by omega), Nat.min_eq_right (by omega)] at h
                    rw [if_pos (hiff.2 (hbefore l h))]
                    exact ((hSconst l sl hl hnl).2 i (by omega) (by omega)).symm
            · have hno : ∀ (l : Nat) (sl : SOper), ss[l]? = some sl → sl.op.neutral Pr = true := by
                intro l sl hsl
                cases hq : sl.op.neutral Pr with
                | true => rfl
                | false => exact absurd ⟨l, sl, hsl, hq⟩ hex
              rw [if_neg (fun ⟨l, sl, h1, h2, _⟩ => by rw [hno l sl h1] at h2; cases h2)]
              exact (hnoloud hno i (by omega)).symm
        have hlist : ∀ j, (listed.setIfInBounds i true).getD j false = if j = i then true else listed.getD j false := by
          intro j
          by_cases hj : j = i
          · subst hj; simp [hsz, hil]
          · rw [if_neg hj, getD_set_ne false (fun e => hj e.symm)]
        have hSVn : (s.op.neutral Pr = true → SV (listed.setIfInBounds i true) = SV listed) ∧ (s.op.neutral Pr = false → SV (listed.setIfInBounds i true) = S (i + 1)) := by
          constructor
          · intro hne
            show (if loudIn _ then st1 else st0) = (if loudIn _ then st1 else st0)
            have : loudIn (listed.setIfInBounds i true) ↔ loudIn listed := by
              constructor
              · rintro ⟨l, sl, h1, h2, h3⟩
                refine ⟨l, sl, h1, h2, ?_⟩
                rw [hlist] at h3
                split at h3
                · rename_i he
                  subst he
                  rw [hs] at h1
                  obtain rfl := Option.some.inj h1
                  rw [hne] at h2
                  cases h2
                · exact h3
              · rintro ⟨l, sl, h1, h2, h3⟩
                exact ⟨l, sl, h1, h2, by rw [hlist]; split <;> first | rfl | exact h3⟩
            by_cases hc : loudIn listed
            · rw [if_pos hc, if_pos (this.2 hc)]
            · rw [if_neg hc, if_neg (fun h => hc (this.1 h))]
          · intro hne
            show (if loudIn _ then st1 else st0) = _
            rw [if_pos ⟨i, s, hs, hne, by rw [hlist, if_pos rfl]⟩]
            exact ((hSconst i s hs hne).2 (i + 1) (by omega) (by omega)).symm
        -- what follows
        have hnext : ∀ (κ' : K) (v : Value), κ.le κ' → Inv Pr κ' (SV (listed.setIfInBounds i true)) → Rep κ' (X i) v → wpAny P .any ops Q fuel (listed.setIfInBounds i true) (a.put o.dst v) κ'.w := by
          intro κ' v k1 k2 k3
          refine ih _ _ κ' (by simpa using hsz) ?_ ?_ (hle.trans k1) k2 ?_ (by rw [put_size]; exact hna) (by rw [put_defs]; exact hda)
          · intro j oj hoj hlj k hk
            rw [hlist] at hlj ⊢
            split
            · rfl
            · split at hlj
              · rename_i he
                subst he
                rw [ho] at hoj
                obtain rfl := Option.some.inj hoj
                exact hneeds k hk
              · exact hcl j oj hoj hlj k hk
          · have := unl_set (listed := listed) hiun hil (by omega)
            omega
          · intro t u hu
            have hon : ∀ j, on (listed.setIfInBounds i true) j = if j = i then true else on listed j := hlist
            by_cases htd : s.dst = some t
            · have hu' : cv ss X e0 (on (listed.setIfInBounds i true)) t ss.length = some (X i) := by
                obtain ⟨m, hm⟩ : ∃ m, ss.length = (i + 1) + m := ⟨ss.length - (i + 1), by omega⟩
                rw [hm, cv_skip m]
                · rw [cv_succ, if_pos ⟨by rw [hon, if_pos rfl], by rw [hs]; exact htd⟩]
                · intro j hij _ hw
                  rw [hon, if_neg (by omega)]
                  exact (hwriter j t hw (by unfold names; rw [htd]; simp) (by omega)).2 (by omega)
              rw [hu'] at hu
              obtain rfl := Option.some.inj hu
              have htn := q3 t htd
              rw [put_size, hna]
              refine ⟨htn, ?_⟩
              rw [q1, htd]
              have : t < a.tmps.size := by omega
              simpa [Act.put, Array.getElem?_setIfInBounds, this] using k3
            · have hu' : cv ss X e0 (on (listed.setIfInBounds i true)) t ss.length = cv ss X e0 (on listed) t ss.length := by
                refine cv_congr _ fun j hj hw => ?_
                rw [hon, if_neg (fun e => htd (by subst e; rw [hs] at hw; exact hw))]
              rw [hu'] at hu
              obtain ⟨r1, r2⟩ := henv t u hu
              rw [put_size]
              refine ⟨r1, ?_⟩
              have hget : (a.put o.dst v).tmps.getD t undef = a.tmps.getD t undef := by
                rw [q1]
                cases hd : s.dst with
                | none => rfl
                | some d =>
                  have hne : d ≠ t := fun e => htd (by rw [hd, e])
                  have : (a.tmps.setIfInBounds d v)[t]? = a.tmps[t]? := Array.getElem?_setIfInBounds_ne hne
                  simp [Act.put, Array.getD_eq_getD_getElem?, this]
              rw [hget]
              exact Rep.mono k1 r2
        have hLκ : κ.L = L := hle.L.trans hL
        have hgsame : wants ss (mask (names ss s) (E i)) s.guard = wants ss (E i) s.guard := wants_same fun t ht' => hsame t (by unfold names; simp [ht'])
        unfold wpOp
        rw [ho]
        simp only
        rcases hrunI with ⟨hw, hop⟩ | ⟨hw, hXi, hSi⟩
        · have hwant := wanted_sound (κ := κ) (hLκ ▸ hok) hEm q2 (hgsame.trans hw)
          rw [if_pos hwant]
          have hop' : opS Pr call (mask (names ss s) (E i)) (SV listed) s.op = some (X i, SV (listed.setIfInBounds i true)) := by
            rw [opS_same (e' := E i) fun t ht' => hsame t (by unfold names; simp [ht'])]
            rcases hSVi with ⟨hb, hne⟩ | he
            · rw [hSVn.1 hne]
              exact blind_any _ hb hop
            · rw [he]
              cases hne : s.op.neutral Pr with
              | true =>
                rw [hSVn.1 hne, he]
                rw [hneu i s hs hne] at hop
                exact hop
              | false =>
                rw [hSVn.2 hne]
                exact hop
          exact .inl (op_sound (hLκ ▸ hcall) hi hEm (hLκ ▸ q4) hop' fun κ' v k1 k2 k3 => hnext κ' v k1 k2 k3)
        · have hwant := wanted_sound (κ := κ) (hLκ ▸ hok) hEm q2 (hgsame.trans hw)
          rw [hwant]
          simp only [Bool.false_eq_true, if_false]
          refine hnext κ undef (K.le.refl _) ?_ (by rw [hXi]; rfl)
          cases hne : s.op.neutral Pr with
          | true => rw [hSVn.1 hne]; exact hi
          | false =>
            rw [hSVn.2 hne, hSi]
            rcases hSVi with ⟨_, h⟩ | h
            · rw [hne] at h; cases h
            · rw [← h]; exact hi
  have hrep : ∀ j : Nat, (Array.replicate ops.size false).getD j false = false := fun j => by
    rcases Nat.lt_or_ge j ops.size with h | h <;> simp [h]
  refine main ops.size (Array.replicate ops.size false) a0 κ0 (by simp) ?_ (unl_le _ _) (K.le.refl _) ?_ ?_ hn0 hd0
  · intro j o _ hj
    rw [hrep] at hj
    cases hj
  · have : SV (Array.replicate ops.size false) = st0 := by
      show (if loudIn _ then st1 else st0) = st0
      rw [if_neg]
      rintro ⟨l, sl, _, _, h⟩
      rw [hrep] at h
      cases h
    rw [this]
    exact hi0
  · intro s v hv
    have : cv ss X e0 (on (Array.replicate ops.size false)) s ss.length = e0.get s := by
      have := cv_skip (ss := ss) (X := X) (e0 := e0) (on := on (Array.replicate ops.size false)) (s := s) (i := 0) ss.length (fun j _ _ _ => hrep j)
      rwa [Nat.zero_add] at this
    rw [this] at hv
    exact hE0 s v hv
end
end Go.Sh
