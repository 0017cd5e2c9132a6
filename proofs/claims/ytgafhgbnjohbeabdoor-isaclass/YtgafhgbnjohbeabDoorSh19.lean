/- Code, functions, programs: a shadow run that comes to an end is the machine's. -/
import Derived.Test.YtgafhgbnjohbeabDoorSh18
import Derived.LoopN
set_option linter.unusedVariables false
set_option linter.unusedSimpArgs false
namespace Go.Sh
open Go.RowKit

def okCode (P : Program) (Pr : Prog) (L : Link) (n : Nat) : SCode → Code → Bool
  | .skip, c => match c with
    | .skip => true
    | .label _ => true
    | _ => false
  | .region ss d B, c => match c with
    | .region _ ops d' => d == d' && okOpers P L n ops.toList ss && (!d || okDraw P Pr ops.toList ss B)
    | _ => false
  | .seq x y, c => match c with
    | .seq a b => okCode P Pr L n x a && okCode P Pr L n y b
    | _ => false
  | .cond o x y, c => match c with
    | .cond o' a b => okO L o' o && okCode P Pr L n x a && okCode P Pr L n y b
    | _ => false
  | .block i x, c => match c with
    | .block j a => j == i && okCode P Pr L n x a
    | _ => false
  | .loop _ _ x, c => match c with
    | .loop a => okCode P Pr L n x a
    | _ => false
  | .exit i, c => match c with
    | .exit j => j == i
    | _ => false
  | .ret, c => match c with
    | .ret => true
    | _ => false
def okRes (P : Program) : List ResultVar → List SRes → Bool
  | [], [] => true
  | .tmp t :: r, .tmp t' :: r' => t == t' && okRes P r r'
  | .cell a ty :: r, .cell t size agg :: r' => a == t && szIs P ty size && aggIs P ty agg && okRes P r r'
  | _, _ => false
def okFn (P : Program) (Pr : Prog) (L : Link) (fn : Func) (sf : SFn) : Bool := match fn.body with
  | some c => okCode P Pr L fn.ntmps sf.body c && okRes P fn.results.toList sf.results && decide (sf.nparams ≤ fn.ntmps)
  | none => false

def Ex.to : Ex → Exit
  | .normal => .normal
  | .exit i => .exit i
  | .ret => .ret

theorem del_get {e : Env} {i j : Nat} : (Env.del i e).get j = if j = i then none else e.get j := by
  induction e with
  | nil => simp [Env.del, Env.get]
  | cons p r ih =>
    obtain ⟨a, v⟩ := p
    unfold Env.del at ih ⊢
    rw [List.filter_cons]
    by_cases ha : a = i
    · subst ha
      simp only [bne_self_eq_false, Bool.false_eq_true, if_false, ih, Env.get]
      split
      · rfl
      · rw [if_neg (by omega)]
    · have : (a != i) = true := by simpa using ha
      simp only [this, if_true, Env.get, ih]
      split
      · subst_vars
        rw [if_neg ha]
      · rfl
theorem escEnv_get {st : St} {h t : Nat} : ∀ {e : Env} {i : Nat} {v : V}, (escEnv st h t e).get i = some v → ∃ u, e.get i = some u ∧ esc1 st h t u = some v
  | [], i, v, hv => by simp [escEnv, Env.get] at hv
  | (j, u) :: r, i, v, hv => by
    simp only [escEnv] at hv
    simp only [Env.get]
    split at hv
    · rename_i x hx
      simp only [Env.get] at hv
      split at hv
      · rename_i hj
        rw [if_pos hj]
        simp only [Option.some.injEq] at hv
        exact ⟨u, rfl, by rw [hx, hv]⟩
      · rename_i hj
        rw [if_neg hj]
        exact escEnv_get hv
    · rw [del_get] at hv
      split at hv
      · cases hv
      · rename_i hne
        rw [if_neg (fun e => hne e.symm)]
        exact escEnv_get hv
theorem esc1_tup {st : St} {h t : Nat} {u v : V} (hv : esc1 st h t u = some v) : ∀ vs, u ≠ .tup vs := by
  rintro vs rfl
  simp [esc1, escC] at hv
section
variable {P : Program} {Pr : Prog} {L : Link} {call : CallF} {n : Nat}

/-- What holds when a piece of code has run. -/
def Post (Pr : Prog) (n : Nat) (κ : K) (a : Act) (r : Out) (Q : Exit → Act → World → Prop) : Prop :=
  ∀ κ' a', κ.le κ' → Inv Pr κ' r.2.2 → ERel κ' r.2.1 a' → a'.tmps.size = n → a'.defers = a.defers → Q r.1.to a' κ'.w

theorem cut_heap {a s : St} (h : Fl { a with floor := a.heap.length } s) : s.heap.take a.heap.length = a.heap := by
  refine List.ext_getElem? fun i => ?_
  rw [List.getElem?_take]
  split
  · rename_i hlt
    exact h.heap i hlt hlt
  · rename_i hge
    rw [List.getElem?_eq_none (by omega)]
theorem round_sound {κ : K} {st : St} {e : Env} {live : List Nat} {tr : Bool} {step : Env → St → Option Out} (hs : StepFl step) (hi : Inv Pr κ st) {a : Act} (hE : ERel κ e a) (hn : a.tmps.size = n) {r : Out}
    (h : round live tr step e st = some r) {c : Code} {Q : Exit → Act → World → Prop} (hQ : Post Pr n κ a r Q)
    (hstep : ∀ (e : Env) (st : St) (r : Out) (Q : Exit → Act → World → Prop), Inv Pr κ st → ERel κ e a → step e st = some r → Post Pr n κ a r Q → c.wp P Q a κ.w) : c.wp P Q a κ.w := by
  unfold round at h
  simp only [Option.map_eq_some_iff] at h
  obtain ⟨⟨x, e1, s1⟩, h1, h2⟩ := h
  have hEm : ERel κ (mask live e) a := fun i v hv => hE i v (mask_get hv).2
  cases tr with
  | false =>
    simp only [cutR, Bool.false_eq_true, if_false] at h2
    subst h2
    exact hstep _ _ _ Q hi hEm h1 hQ
  | true =>
    simp only [cutR, if_true] at h2
    subst h2
    simp only [enterR, if_true] at h1
    refine hstep _ _ _ Q (hi.floor (f := st.heap.length) (tf := st.tfloor)) hEm h1 ?_
    intro κ' a' k1 k2 k3 k4 k5
    have hfl := hs _ _ _ _ _ h1
    obtain ⟨m1, m2⟩ := Inv.cut hi k1 k2 (cut_heap hfl) (f := st.floor) (tf := st.tfloor)
    refine hQ (κ'.cut st.heap.length st.tips.length) a' m1 m2 ?_ k4 k5
    intro i v hv
    obtain ⟨u, hu, hv⟩ := escEnv_get hv
    obtain ⟨q1, q2⟩ := k3 i u hu
    exact ⟨q1, Rep.of1 (esc1_rep k2 hv (Rep.to1 q2 (esc1_tup hv)))⟩
theorem iter_sound {live : List Nat} {tr : Bool} {step : Env → St → Option Out} (hs : StepFl step) {c : Code}
    (hstep : ∀ (κ : K) (a : Act) (e : Env) (st : St) (r : Out) (Q : Exit → Act → World → Prop), κ.L = L → a.tmps.size = n → Inv Pr κ st → ERel κ e a → step e st = some r → Post Pr n κ a r Q → c.wp P Q a κ.w) :
    ∀ (k : Nat) {κ : K} {st : St} {e : Env} {a : Act} {r : Out} {Q : Exit → Act → World → Prop}, κ.L = L → Inv Pr κ st → ERel κ e a → a.tmps.size = n → iter (round live tr step) k e st = some r → r.1 ≠ .normal → Post Pr n κ a r Q → Code.rounds P c Q k a κ.w
  | 0, κ, st, e, a, r, Q, _, _, _, _, h, _, _ => by simp [iter] at h
  | k + 1, κ, st, e, a, r, Q, hL, hi, hE, hn, h, hne, hQ => by
    rw [rounds_succ]
    unfold iter at h
    split at h
    · rename_i e1 s1 h1
      refine round_sound hs hi hE hn h1 ?_ (fun e st r Q hi hE hr hp => hstep κ a e st r Q hL hn hi hE hr hp)
      intro κ' a' k1 k2 k3 k4 k5
      exact iter_sound hs hstep k (k1.L.trans hL) k2 k3 k4 h hne fun κ2 a2 m1 m2 m3 m4 m5 => hQ κ2 a2 (k1.trans m1) m2 m3 m4 (m5.trans k5)
    · refine round_sound hs hi hE hn h ?_ (fun e st r Q hi hE hr hp => hstep κ a e st r Q hL hn hi hE hr hp)
      intro κ' a' k1 k2 k3 k4 k5
      have := hQ κ' a' k1 k2 k3 k4 k5
      obtain ⟨x, _, _⟩ := r
      cases x with
      | normal => exact (hne rfl).elim
      | exit i => exact this
      | ret => exact this
theorem iter_normal {step : Env → St → Option Out} : ∀ {k : Nat} {e : Env} {st : St} {r : Out}, iter step k e st = some r → r.1 ≠ .normal
  | 0, e, st, r, h => by simp [iter] at h
  | k + 1, e, st, r, h => by
    unfold iter at h
    split at h
    · exact iter_normal h
    · rename_i hno
      obtain ⟨x, e', s'⟩ := r
      rintro rfl
      exact hno _ _ h
theorem code_sound (hcall : CallOk P Pr L call) (hpure : CallPure Pr call) (hfl : CallFl call) (hm : P.follows .mixedOrders = true) {k : Nat} :
    ∀ (s : SCode) {c : Code} {κ : K} {e : Env} {st : St} {r : Out} {a : Act} {Q : Exit → Act → World → Prop}, κ.L = L → okCode P Pr L n s c = true → Inv Pr κ st → ERel κ e a → a.tmps.size = n → codeS Pr call k s e st = some r → Post Pr n κ a r Q → c.wp P Q a κ.w
  | .skip, c, κ, e, st, r, a, Q, hL, hok, hi, hE, hn, h, hQ => by
    simp only [codeS, Option.some.injEq] at h
    subst h
    have := hQ κ a (K.le.refl _) hi hE hn rfl
    simp only [okCode] at hok
    split at hok
    · exact wp_skip this
    · exact wp_label this
    · cases hok
  | .region ss d B, c, κ, e, st, r, a, Q, hL, hok, hi, hE, hn, h, hQ => by
    simp only [okCode] at hok
    split at hok
    case h_2 => cases hok
    rename_i id ops d'
    simp only [Bool.and_eq_true, beq_iff_eq, Bool.or_eq_true, Bool.not_eq_true'] at hok
    obtain ⟨⟨rfl, h1⟩, h2⟩ := hok
    simp only [codeS] at h
    split at h
    case h_2 => cases h
    rename_i e1 s1 hrun
    simp only [Option.some.injEq] at h
    subst h
    cases d with
    | false => exact wp_region_list (list_sound hcall h1 hL h1 hi hE hn hrun fun κ' a' k1 k2 k3 k4 k5 => hQ κ' a' k1 k2 k3 k4 k5)
    | true =>
      refine wp_region_any hm ?_
      have h2 := h2.resolve_left (by simp)
      obtain ⟨g1, g2⟩ := hi.grow (w' := { κ.w with drawn := κ.w.drawn + 1 }) (grownBy_heap rfl rfl rfl rfl)
      exact draw_sound hcall hpure h1 h2 hrun (κ0 := κ.to { κ.w with drawn := κ.w.drawn + 1 }) hL (fun κ' a' k1 k2 k3 k4 k5 => hQ κ' a' (g1.trans k1) k2 k3 k4 k5) g2 (hE.mono g1) hn rfl
  | .seq x y, c, κ, e, st, r, a, Q, hL, hok, hi, hE, hn, h, hQ => by
    simp only [okCode] at hok
    split at hok
    case h_2 => cases hok
    simp only [Bool.and_eq_true] at hok
    simp only [codeS] at h
    refine wp_seq ?_
    split at h
    · rename_i e1 s1 h1
      refine code_sound hcall hpure hfl hm x hL hok.1 hi hE hn h1 ?_
      intro κ' a' k1 k2 k3 k4 k5
      exact code_sound hcall hpure hfl hm y (k1.L.trans hL) hok.2 k2 k3 k4 h fun κ2 a2 m1 m2 m3 m4 m5 => hQ κ2 a2 (k1.trans m1) m2 m3 m4 (m5.trans k5)
    · rename_i hno
      refine code_sound hcall hpure hfl hm x hL hok.1 hi hE hn h ?_
      intro κ' a' k1 k2 k3 k4 k5
      have := hQ κ' a' k1 k2 k3 k4 k5
      obtain ⟨z, e', s'⟩ := r
      cases z with
      | normal => exact (hno _ _ h).elim
      | exit i => exact this
      | ret => exact this
  | .cond o x y, c, κ, e, st, r, a, Q, hL, hok, hi, hE, hn, h, hQ => by
    simp only [okCode] at hok
    split at hok
    case h_2 => cases hok
    simp only [Bool.and_eq_true] at hok
    simp only [codeS] at h
    split at h
    · rename_i hc
      have := opd_sound hi hE (hL ▸ hok.1.1) hc
      exact wp_cond_true this (code_sound hcall hpure hfl hm x hL hok.1.2 hi hE hn h hQ)
    · rename_i hc
      have := opd_sound hi hE (hL ▸ hok.1.1) hc
      exact wp_cond_false this (code_sound hcall hpure hfl hm y hL hok.2 hi hE hn h hQ)
    · cases h
  | .block i x, c, κ, e, st, r, a, Q, hL, hok, hi, hE, hn, h, hQ => by
    simp only [okCode] at hok
    split at hok
    case h_2 => cases hok
    simp only [Bool.and_eq_true, beq_iff_eq] at hok
    obtain ⟨rfl, hok⟩ := hok
    simp only [codeS] at h
    refine wp_block ?_
    split at h
    · rename_i j e1 s1 h1
      refine code_sound hcall hpure hfl hm x hL hok hi hE hn h1 ?_
      intro κ' a' k1 k2 k3 k4 k5
      show Exit.inBlock _ Q (.exit j) a' κ'.w
      unfold Exit.inBlock
      split at h
      · rename_i hj
        simp only [Option.some.injEq] at h
        subst h
        simp only [hj, if_true]
        exact hQ κ' a' k1 k2 k3 k4 k5
      · rename_i hj
        simp only [Option.some.injEq] at h
        subst h
        simp only [hj, if_false]
        exact hQ κ' a' k1 k2 k3 k4 k5
    · rename_i hno
      refine code_sound hcall hpure hfl hm x hL hok hi hE hn h ?_
      intro κ' a' k1 k2 k3 k4 k5
      have := hQ κ' a' k1 k2 k3 k4 k5
      obtain ⟨z, e', s'⟩ := r
      cases z with
      | normal => exact this
      | exit i => exact (hno _ _ _ h).elim
      | ret => exact this
  | .loop live tr x, c, κ, e, st, r, a, Q, hL, hok, hi, hE, hn, h, hQ => by
    simp only [okCode] at hok
    split at hok
    case h_2 => cases hok
    simp only [codeS] at h
    refine wp_loop_rounds k (iter_sound (L := L) (codeS_fl hfl k x) ?_ k hL hi hE hn h (iter_normal h) hQ)
    intro κ a e st r Q hL hn hi hE hr hp
    exact code_sound hcall hpure hfl hm x hL hok hi hE hn hr hp
  | .exit i, c, κ, e, st, r, a, Q, hL, hok, hi, hE, hn, h, hQ => by
    simp only [okCode] at hok
    split at hok
    case h_2 => cases hok
    simp only [beq_iff_eq] at hok
    subst hok
    simp only [codeS, Option.some.injEq] at h
    subst h
    exact wp_exit (hQ κ a (K.le.refl _) hi hE hn rfl)
  | .ret, c, κ, e, st, r, a, Q, hL, hok, hi, hE, hn, h, hQ => by
    simp only [okCode] at hok
    split at hok
    case h_2 => cases hok
    simp only [codeS, Option.some.injEq] at h
    subst h
    exact wp_ret (hQ κ a (K.le.refl _) hi hE hn rfl)

/-! ### Results -/
theorem initE_get : ∀ {vs : List V} {k i : Nat} {v : V}, (initE k vs).get i = some v → k ≤ i ∧ vs[i - k]? = some v
  | [], k, i, v, h => by simp [initE, Env.get] at h
  | u :: vs, k, i, v, h => by
    simp only [initE, Env.get] at h
    split at h
    · rename_i hk
      subst hk
      simp only [Option.some.injEq] at h
      subst h
      simp
    · obtain ⟨h1, h2⟩ := initE_get h
      refine ⟨by omega, ?_⟩
      rw [show i - k = (i - (k + 1)) + 1 by omega]
      simpa using h2
variable {κ : K} {st : St} {e : Env} {a : Act}
theorem resOne_sound (hi : Inv Pr κ st) (hE : ERel κ e a) {r : ResultVar} {s : SRes} (hok : okRes P [r] [s] = true) {v : V} (h : resOne e st s = some v) :
    ∃ u, (match r with | .tmp t => pure (a.tmps.getD t undef) | .cell p t => (do loadVar t (← asAddr (a.tmps.getD p undef))) : Sem Value).run P κ.w = .ok u κ.w ∧ Rep κ v u := by
  cases r with
  | tmp t => cases s with
    | tmp t' =>
      simp only [okRes, Bool.and_eq_true, beq_iff_eq, and_true] at hok
      subst hok
      exact ⟨_, rfl, (hE _ _ h).2⟩
    | cell => simp [okRes] at hok
  | cell p t => cases s with
    | tmp => simp [okRes] at hok
    | cell t' size agg =>
      simp only [okRes, Bool.and_eq_true, beq_iff_eq, and_true] at hok
      obtain ⟨⟨rfl, h1⟩, h2⟩ := hok
      simp only [resOne] at h
      split at h
      case h_2 => cases h
      rename_i q hq
      have hp := (hE _ _ hq).2
      obtain ⟨u, h3, h4⟩ := load_sound hi h1 h2 h hp
      refine ⟨u, ?_, Rep.of1 h4⟩
      rw [← h3]
      have hptr : ∃ A, a.tmps.getD p undef = .pointer (some A) := by
        cases q <;> simp only [loadV] at h <;> try (cases h; done)
        · obtain ⟨b, _, hb⟩ := hp; exact ⟨_, hb⟩
        · obtain ⟨A, hA, _⟩ := hp; exact ⟨_, hA⟩
      obtain ⟨A, hA⟩ := hptr
      show (do loadVar t (← asAddr (a.tmps.getD p undef)) : Sem Value).run P κ.w = _
      rw [hA]
      rfl
theorem resAll_sound (hi : Inv Pr κ st) (hE : ERel κ e a) (f : ResultVar → Sem Value) (hf : ∀ r, f r = (match r with | .tmp t => pure (a.tmps.getD t undef) | .cell p t => (do loadVar t (← asAddr (a.tmps.getD p undef))) : Sem Value)) :
    ∀ {rs : List ResultVar} {ss : List SRes}, okRes P rs ss = true → ∀ {vs : List V}, resAll e st ss = some vs → ∃ us, (rs.mapM f).run P κ.w = .ok us κ.w ∧ All2 (Rep1 κ) vs us
  | [], [], _, vs, h => by
    simp only [resAll, Option.some.injEq] at h
    subst h
    exact ⟨[], by simp, .nil⟩
  | r :: rs, s :: ss, hok, vs, h => by
    simp only [resAll] at h
    split at h
    case h_2 => cases h
    rename_i v hv
    split at h
    case isFalse => cases h
    rename_i hv1
    split at h
    case h_2 => cases h
    rename_i vs' hvs
    simp only [Option.some.injEq] at h
    subst h
    have hok' : okRes P [r] [s] = true ∧ okRes P rs ss = true := by
      cases r <;> cases s <;> simp [okRes] at hok ⊢ <;> simp [hok]
    obtain ⟨u, h1, h2⟩ := resOne_sound hi hE hok'.1 hv
    obtain ⟨us, h3, h4⟩ := resAll_sound hi hE f hf hok'.2 hvs
    refine ⟨u :: us, ?_, .cons (Rep.to1 h2 (by rintro vs rfl; simp [V.ok1] at hv1)) h4⟩
    rw [List.mapM_cons, hf]
    simp only [Sem.run_bind, h1, Result.andThen_ok, h3, Sem.run_pure]
  | [], _ :: _, hok, vs, h => by simp [okRes] at hok
  | r :: _, [], hok, vs, h => by cases r <;> simp [okRes] at hok
theorem okRes_length : ∀ {rs : List ResultVar} {ss : List SRes}, okRes P rs ss = true → rs.length = ss.length
  | [], [], _ => rfl
  | r :: rs, s :: ss, h => by
    have : okRes P rs ss = true := by cases r <;> cases s <;> simp [okRes] at h <;> simp [h]
    simp [okRes_length this]
  | [], _ :: _, hok => by simp [okRes] at hok
  | r :: _, [], hok => by cases r <;> simp [okRes] at hok
theorem resAll_length : ∀ {ss : List SRes} {vs : List V}, resAll e st ss = some vs → vs.length = ss.length := by
  intro ss
  induction ss with
  | nil => intro vs h; simp only [resAll, Option.some.injEq] at h; subst h; rfl
  | cons s ss ih =>
    intro vs h
    simp only [resAll] at h
    split at h
    · split at h
      · split at h
        · rename_i hh
          simp only [Option.some.injEq] at h
          subst h
          simp [ih hh]
        · cases h
      · cases h
    · cases h
theorem results_aux (hi : Inv Pr κ st) (hE : ERel κ e a) (f : ResultVar → Sem Value) (hf : ∀ r, f r = (match r with | .tmp t => pure (a.tmps.getD t undef) | .cell p t => (do loadVar t (← asAddr (a.tmps.getD p undef))) : Sem Value))
    {rs : List ResultVar} {ss : List SRes} (hok : okRes P rs ss = true) {v : V} (h : resV e st ss = some v) :
    ∃ u, (do let vs ← rs.toArray.mapM f; pure (if h : vs.size = 1 then vs[0] else .tuple vs) : Sem Value).run P κ.w = .ok u κ.w ∧ Rep κ v u := by
  have hlen := okRes_length hok
  rw [List.mapM_toArray]
  simp only [Sem.run_bind, Sem.run_map]
  unfold resV at h
  split at h
  · rename_i s
    obtain ⟨r, rfl⟩ : ∃ r, rs = [r] := by
      cases rs with
      | nil => simp at hlen
      | cons r rs => cases rs with
        | nil => exact ⟨r, rfl⟩
        | cons => simp at hlen
    obtain ⟨u, h1, h2⟩ := resOne_sound hi hE hok h
    refine ⟨u, ?_, h2⟩
    rw [List.mapM_cons, hf]
    simp only [Sem.run_bind, Sem.run_pure, Result.andThen_ok, List.mapM_nil, h1]
    simp
  · rename_i hno
    simp only [Option.map_eq_some_iff] at h
    obtain ⟨vs, hvs, rfl⟩ := h
    obtain ⟨us, h1, h2⟩ := resAll_sound hi hE f hf hok hvs
    refine ⟨.tuple us.toArray, ?_, us, rfl, h2⟩
    rw [h1]
    have hul : us.length ≠ 1 := by
      have e1 : vs.length = us.length := h2.length
      have e3 := resAll_length hvs
      intro h1
      cases ss with
      | nil =>
        rw [List.length_nil] at e3
        omega
      | cons s ss => cases ss with
        | nil => exact hno s rfl
        | cons =>
          simp only [List.length_cons] at e3
          omega
    simp [hul]
theorem results_sound (hi : Inv Pr κ st) (hE : ERel κ e a) {fn : Func} {ss : List SRes} (hok : okRes P fn.results.toList ss = true) {v : V} (h : resV e st ss = some v) :
    ∃ u, (results fn a.tmps).run P κ.w = .ok u κ.w ∧ Rep κ v u := by
  obtain ⟨rs, hrs⟩ : ∃ rs, fn.results = ⟨rs⟩ := ⟨fn.results.toList, by simp⟩
  rw [hrs] at hok
  unfold results
  rw [hrs]
  exact results_aux hi hE _ (fun r => by cases r <;> rfl) hok h

/-! ### Functions and programs -/
theorem fn_sound {f : Nat} {fn : Func} {sf : SFn} (hm : P.follows .mixedOrders = true) (hcall : CallOk P Pr L call) (hpure : CallPure Pr call) (hfl : CallFl call) (hf : P.funcs[L.fn f]? = some fn) (hok : okFn P Pr L fn sf = true)
    {κ : K} {st st' : St} {args : List V} {vals : List Value} {r : V} {k : Nat} (hL : κ.L = L) (hi : Inv Pr κ st) (ha : All2 (Rep κ) args vals) (hn : args.length = sf.nparams)
    (h : finish sf st (codeS Pr call k sf.body (initE 0 args) (start sf st)) = some (r, st')) :
    Calls P (L.fn f) vals.toArray κ.w fun e w' => ∃ κ' v, κ'.w = w' ∧ e = .returned v ∧ κ.le κ' ∧ Inv Pr κ' st' ∧ Rep κ' r v := by
  unfold okFn at hok
  split at hok
  case h_2 => cases hok
  rename_i c hc
  simp only [Bool.and_eq_true, decide_eq_true_eq] at hok
  obtain ⟨⟨h1, h2⟩, h3⟩ := hok
  refine calls_of_wp hf hc ?_
  have hlen := ha.length
  generalize hr : codeS Pr call k sf.body (initE 0 args) (start sf st) = out at h
  cases out with
  | none => simp [finish] at h
  | some out =>
  have hi' : Inv Pr κ (start sf st) := by
    unfold start
    split
    · exact hi.floor
    · exact hi
  refine code_sound (n := fn.ntmps) hcall hpure hfl hm sf.body hL h1 hi' ?_ ?_ hr ?_
  · intro i v hv
    obtain ⟨_, hv⟩ := initE_get hv
    simp only [Nat.sub_zero] at hv
    obtain ⟨y, hy, hrep⟩ := ha.get hv
    have hlt := (List.getElem?_eq_some_iff.1 hy).1
    refine ⟨by simp; omega, ?_⟩
    rw [Array.getD_eq_getD_getElem?, Array.getElem?_append_left (by simpa using hlt)]
    simpa [hy] using hrep
  · simp; omega
  · intro κ' a' k1 k2 k3 k4 k5
    obtain ⟨x, e1, s1⟩ := out
    have hfl' := codeS_fl hfl k sf.body _ _ _ _ _ hr
    have main : ∀ v, resV e1 s1 sf.results = some v → (if sf.pure then (esc s1 st.heap.length st.tips.length v).map fun v => (v, st) else some (v, s1)) = some (r, st') →
        ∃ u, (results fn a'.tmps).run P κ'.w = .ok u κ'.w ∧ ∃ κ2 v, κ2.w = κ'.w ∧ Ending.returned u = .returned v ∧ κ.le κ2 ∧ Inv Pr κ2 st' ∧ Rep κ2 r v := by
      intro v hv hres
      obtain ⟨u, g1, g2⟩ := results_sound k2 k3 h2 hv
      refine ⟨u, g1, ?_⟩
      split at hres
      · rename_i hp
        simp only [Option.map_eq_some_iff, Prod.mk.injEq] at hres
        obtain ⟨z, hz, rfl, rfl⟩ := hres
        unfold start at hfl'
        rw [if_pos hp] at hfl'
        have hheap : s1.heap.take st.heap.length = st.heap := by
          refine List.ext_getElem? fun i => ?_
          rw [List.getElem?_take]
          split
          · rename_i hlt
            exact hfl'.heap i hlt hlt
          · rename_i hge
            rw [List.getElem?_eq_none (by omega)]
        have htips : s1.tips.take st.tips.length = st.tips := by
          refine List.ext_getElem? fun i => ?_
          rw [List.getElem?_take]
          split
          · rename_i hlt
            exact hfl'.tips i hlt hlt
          · rename_i hge
            rw [List.getElem?_eq_none (by omega)]
        obtain ⟨m1, m2⟩ := Inv.cut hi k1 k2 hheap (f := st.floor) (tf := st.tfloor)
        rw [htips] at m2
        exact ⟨κ'.cut st.heap.length st.tips.length, u, rfl, rfl, m1, m2, escT_rep k2 hz g2⟩
      · simp only [Option.some.injEq, Prod.mk.injEq] at hres
        obtain ⟨rfl, rfl⟩ := hres
        exact ⟨κ', u, rfl, rfl, k1, k2, g2⟩
    cases x with
    | exit i => simp [finish] at h
    | normal =>
      simp only [finish] at h
      split at h
      case h_2 => cases h
      rename_i v hv
      obtain ⟨u, m1, m2⟩ := main v hv h
      exact ⟨k5, u, m1, m2⟩
    | ret =>
      simp only [finish] at h
      split at h
      case h_2 => cases h
      rename_i v hv
      obtain ⟨u, m1, m2⟩ := main v hv h
      exact ⟨k5, u, m1, m2⟩

/-- The program's functions are the shadow's. -/
def Tied (P : Program) (Pr : Prog) (L : Link) : Prop := ∀ f sf, Pr.fn f = some sf → ∃ fn, P.funcs[L.fn f]? = some fn ∧ okFn P Pr L fn sf = true
theorem runF_pure : ∀ k, CallPure Pr (runF Pr k)
  | 0, f, args, st, r, st', _, h => by simp [runF] at h
  | k + 1, f, args, st, r, st', hp, h => by
    simp only [runF] at h
    unfold isPure at hp
    split at h
    · rename_i fn hfn
      rw [hfn] at hp
      split at h
      · unfold finish at h
        split at h
        · cases h
        · split at h
          · split at h
            · simp only [Option.map_eq_some_iff, Prod.mk.injEq] at h
              obtain ⟨_, _, _, rfl⟩ := h
              rfl
            · rename_i hnp
              simp only at hp
              exact (hnp hp).elim
          · cases h
        · cases h
      · cases h
    · cases h
theorem runF_sound (hm : P.follows .mixedOrders = true) (ht : Tied P Pr L) : ∀ k, CallOk P Pr L (runF Pr k)
  | 0 => fun κ st f args vals r st' _ _ _ h => by simp [runF] at h
  | k + 1 => fun κ st f args vals r st' hL hi ha h => by
    simp only [runF] at h
    split at h
    · rename_i sf hsf
      obtain ⟨fn, h1, h2⟩ := ht f sf hsf
      split at h
      · rename_i hn
        exact fn_sound hm (runF_sound hm ht k) (runF_pure k) (runF_fl k) h1 h2 hL hi ha hn h
      · cases h
    · cases h
end
end Go.Sh
