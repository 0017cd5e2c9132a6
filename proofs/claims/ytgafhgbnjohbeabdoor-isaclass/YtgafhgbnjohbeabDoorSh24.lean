/- What a run surely comes to, whatever room an append finds: triples. -/
import Derived.Test.YtgafhgbnjohbeabDoorSh23
set_option linter.unusedVariables false
set_option linter.unusedSimpArgs false
namespace Go.Sh
open Go.RowKit

structure Tie (P : Program) (Pr : Prog) (L : Link) : Prop where
  m : P.follows .mixedOrders = true
  t : Tied P Pr L
def Ends (Pr : Prog) (κ : K) (st : St) (Q : V → St → Prop) (e : Ending) (w' : World) : Prop :=
  ∃ κ' v r st', κ'.w = w' ∧ e = .returned v ∧ κ.le κ' ∧ Inv Pr κ' st' ∧ Rep κ' r v ∧ Fl st st' ∧ Q r st'
/-- A call surely comes to what Q says. -/
def CallW (Pr : Prog) (f : Nat) (args : List V) (st : St) (Q : V → St → Prop) : Prop :=
  ∀ (P : Program) (L : Link), Tie P Pr L → ∀ (κ : K) (vals : List Value), κ.L = L → Inv Pr κ st → All2 (Rep κ) args vals → Calls P (L.fn f) vals.toArray κ.w (Ends Pr κ st Q)
def PostW (Pr : Prog) (n : Nat) (κ : K) (a : Act) (st : St) (Q : Out → Prop) (R : Exit → Act → World → Prop) : Prop :=
  ∀ r κ' a', Q r → Fl st r.2.2 → κ.le κ' → Inv Pr κ' r.2.2 → ERel κ' r.2.1 a' → a'.tmps.size = n → a'.defers = a.defers → R r.1.to a' κ'.w
/-- Code surely comes to what Q says. -/
def CodeW (Pr : Prog) (c : SCode) (e : Env) (st : St) (Q : Out → Prop) : Prop :=
  ∀ (P : Program) (L : Link), Tie P Pr L → ∀ (n : Nat) (code : Code), okCode P Pr L n c code = true → ∀ (κ : K) (a : Act) (R : Exit → Act → World → Prop), κ.L = L → Inv Pr κ st → ERel κ e a → a.tmps.size = n →
    PostW Pr n κ a st Q R → code.wp P R a κ.w
section
variable {Pr : Prog} {e : Env} {st : St} {Q Q' : Out → Prop}
theorem CallW.mono {f : Nat} {args : List V} {Q Q' : V → St → Prop} (h : CallW Pr f args st Q) (hq : ∀ v st', Q v st' → Q' v st') : CallW Pr f args st Q' := by
  intro P L ht κ vals hL hi ha
  refine (h P L ht κ vals hL hi ha).mono ?_
  rintro e w' ⟨κ', v, r, st', h1, h2, h3, h4, h5, h6, h7⟩
  exact ⟨κ', v, r, st', h1, h2, h3, h4, h5, h6, hq _ _ h7⟩
theorem CodeW.mono {c : SCode} (h : CodeW Pr c e st Q) (hq : ∀ r, Q r → Q' r) : CodeW Pr c e st Q' := by
  intro P L ht n code hok κ a R hL hi hE hn hR
  exact h P L ht n code hok κ a R hL hi hE hn fun r κ' a' q => hR r κ' a' (hq r q)
theorem CallW.of_den {f : Nat} {args : List V} {Q : V → St → Prop} {r : V} {st' : St} (h : den Pr f args st = some (r, st')) (hQ : Q r st') : CallW Pr f args st Q := by
  intro P L ht κ vals hL hi ha
  obtain ⟨k, h⟩ := den_iff.1 h
  subst hL
  refine (runF_sound ht.m ht.t k κ st f args vals r st' rfl hi ha h).mono ?_
  rintro e w' ⟨κ', v, h1, h2, h3, h4, h5⟩
  exact ⟨κ', v, r, st', h1, h2, h3, h4, h5, runF_fl k _ _ _ _ _ h, hQ⟩
theorem CodeW.of_cden {c : SCode} {r : Out} (h : cden Pr c e st = some r) (hQ : Q r) : CodeW Pr c e st Q := by
  intro P L ht n code hok κ a R hL hi hE hn hR
  obtain ⟨k, h⟩ := cden_iff.1 h
  refine code_sound (runF_sound ht.m ht.t k) (runF_pure k) (runF_fl k) ht.m c hL hok hi hE hn h ?_
  intro κ' a' k1 k2 k3 k4 k5
  exact hR r κ' a' hQ (codeS_fl (runF_fl k) k c _ _ _ _ _ h) k1 k2 k3 k4 k5
theorem CodeW.skip (h : Q (.normal, e, st)) : CodeW Pr .skip e st Q := .of_cden cden_skip h
theorem CodeW.ret (h : Q (.ret, e, st)) : CodeW Pr .ret e st Q := .of_cden cden_ret h
theorem CodeW.exit {i : Nat} (h : Q (.exit i, e, st)) : CodeW Pr (.exit i) e st Q := .of_cden cden_exit h
def Seq (Pr : Prog) (b : SCode) (Q : Out → Prop) (r : Out) : Prop := match r with
  | (.normal, e', st') => CodeW Pr b e' st' Q
  | r => Q r
theorem CodeW.seq {x y : SCode} (h : CodeW Pr x e st (Seq Pr y Q)) : CodeW Pr (.seq x y) e st Q := by
  intro P L ht n code hok κ a R hL hi hE hn hR
  simp only [okCode] at hok
  split at hok
  case h_2 => cases hok
  simp only [Bool.and_eq_true] at hok
  refine wp_seq (h P L ht n _ hok.1 κ a _ hL hi hE hn ?_)
  rintro ⟨x, e1, s1⟩ κ' a' hq k0 k1 k2 k3 k4 k5
  cases x with
  | normal =>
    refine hq P L ht n _ hok.2 κ' a' R (k1.L.trans hL) k2 k3 k4 ?_
    intro r κ2 a2 q m0 m1 m2 m3 m4 m5
    exact hR r κ2 a2 q (k0.trans m0) (k1.trans m1) m2 m3 m4 (m5.trans k5)
  | exit i => exact hR (.exit i, e1, s1) κ' a' hq k0 k1 k2 k3 k4 k5
  | ret => exact hR (.ret, e1, s1) κ' a' hq k0 k1 k2 k3 k4 k5
theorem CodeW.cond {o : Opd} {x y : SCode} (h : ∃ t, o.ev Pr e = some (.d (.b t)) ∧ (t = true → CodeW Pr x e st Q) ∧ (t = false → CodeW Pr y e st Q)) : CodeW Pr (.cond o x y) e st Q := by
  obtain ⟨t, ho, h1, h2⟩ := h
  intro P L ht n code hok κ a R hL hi hE hn hR
  simp only [okCode] at hok
  split at hok
  case h_2 => cases hok
  simp only [Bool.and_eq_true] at hok
  have := opd_sound hi hE (hL ▸ hok.1.1) ho
  cases t with
  | true => exact wp_cond_true this (h1 rfl P L ht n _ hok.1.2 κ a R hL hi hE hn hR)
  | false => exact wp_cond_false this (h2 rfl P L ht n _ hok.2 κ a R hL hi hE hn hR)
def InBlock (i : Nat) (Q : Out → Prop) (r : Out) : Prop := match r with
  | (.exit j, e', st') => if j = i then Q (.normal, e', st') else Q (.exit j, e', st')
  | r => Q r
theorem CodeW.block {i : Nat} {x : SCode} (h : CodeW Pr x e st (InBlock i Q)) : CodeW Pr (.block i x) e st Q := by
  intro P L ht n code hok κ a R hL hi hE hn hR
  simp only [okCode] at hok
  split at hok
  case h_2 => cases hok
  simp only [Bool.and_eq_true, beq_iff_eq] at hok
  obtain ⟨rfl, hok⟩ := hok
  refine wp_block (h P L ht n _ hok κ a _ hL hi hE hn ?_)
  rintro ⟨x, e1, s1⟩ κ' a' hq k0 k1 k2 k3 k4 k5
  cases x with
  | normal => exact hR (.normal, e1, s1) κ' a' hq k0 k1 k2 k3 k4 k5
  | exit j =>
    show Exit.inBlock _ R (.exit j) a' κ'.w
    unfold Exit.inBlock
    unfold InBlock at hq
    simp only at hq
    split at hq
    · rename_i hj
      simp only [hj, if_true]
      exact hR (.normal, e1, s1) κ' a' hq k0 k1 k2 k3 k4 k5
    · rename_i hj
      simp only [hj, if_false]
      exact hR (.exit j, e1, s1) κ' a' hq k0 k1 k2 k3 k4 k5
  | ret => exact hR (.ret, e1, s1) κ' a' hq k0 k1 k2 k3 k4 k5
theorem rounds_mono {P : Program} {c : Code} {R : Exit → Act → World → Prop} : ∀ {k k' : Nat}, k ≤ k' → ∀ {a : Act} {w : World}, Code.rounds P c R k a w → Code.rounds P c R k' a w
  | 0, _, _, a, w, h => h.elim
  | k + 1, 0, hk, _, _, _ => by omega
  | k + 1, k' + 1, hk, a, w, h => by
    rw [rounds_succ] at h ⊢
    refine wp_mono h ?_
    intro x a w hx
    cases x with
    | normal => exact rounds_mono (by omega) hx
    | _ => exact hx
/-- What must hold when a round has run: the invariant at a smaller measure, or what is wanted. -/
def Round (I : Nat → Env → St → Prop) (n : Nat) (Q : Out → Prop) (r : Out) : Prop := match r with
  | (.normal, e', st') => ∃ m, m < n ∧ I m e' st'
  | r => Q r
theorem cutR_fl {tr : Bool} {r : Out} (h : Fl (enterR st tr) r.2.2) : Fl st (cutR st tr r).2.2 := by
  unfold cutR
  cases tr with
  | false => exact h
  | true =>
    refine ⟨rfl, rfl, Nat.le_refl _, ?_, fun _ _ _ => rfl, fun t h1 h2 => ?_⟩
    · have := h.tlen
      simp only [if_true, List.length_take] at this ⊢
      unfold enterR at this
      simp only [if_true] at this
      omega
    · have := h.tips t h1 h2
      simp only [if_true]
      rw [List.getElem?_take, if_pos h2]
      exact this
theorem cutR_ex {tr : Bool} {r : Out} : (cutR st tr r).1 = r.1 := by
  unfold cutR
  cases tr <;> rfl
theorem CodeW.loop {live : List Nat} {tr : Bool} {c : SCode} (I : Nat → Env → St → Prop) (hI : ∀ n e st, I n e st → CodeW Pr c (mask live e) (enterR st tr) (fun r => Round I n Q (cutR st tr r))) {n : Nat} (h : I n e st) : CodeW Pr (.loop live tr c) e st Q := by
  intro P L ht N code hok κ a R hL hi hE hn hR
  simp only [okCode] at hok
  split at hok
  case h_2 => cases hok
  rename_i code'
  refine wp_loop_rounds (n + 1) ?_
  induction n using Nat.strongRecOn generalizing e st κ a with
  | ind n ih =>
    rw [rounds_succ]
    have hEm : ERel κ (mask live e) a := fun i v hv => hE i v (mask_get hv).2
    have hi' : Inv Pr κ (enterR st tr) := by
      unfold enterR
      split
      · exact hi.floor
      · exact hi
    refine hI n e st h P L ht N code' hok κ a _ hL hi' hEm hn ?_
    rintro r κ' a' hq k0 k1 k2 k3 k4 k5
    have hfl := cutR_fl k0
    -- behind the cut
    obtain ⟨κ2, w2, m1, m2, m3⟩ : ∃ κ2 : K, κ2.w = κ'.w ∧ κ.le κ2 ∧ Inv Pr κ2 (cutR st tr r).2.2 ∧ ERel κ2 (cutR st tr r).2.1 a' := by
      cases tr with
      | false => exact ⟨κ', rfl, k1, k2, k3⟩
      | true =>
        have hh := cut_heap (s := r.2.2) (a := st) (by simpa [enterR] using k0)
        obtain ⟨m1, m2⟩ := Inv.cut hi k1 k2 hh (f := st.floor) (tf := st.tfloor)
        refine ⟨κ'.cut st.heap.length st.tips.length, rfl, m1, m2, ?_⟩
        intro i v hv
        obtain ⟨u, hu, hv⟩ := escEnv_get hv
        obtain ⟨q1, q2⟩ := k3 i u hu
        exact ⟨q1, Rep.of1 (esc1_rep k2 hv (Rep.to1 q2 (esc1_tup hv)))⟩
    rw [← w2]
    have hex := cutR_ex (st := st) (tr := tr) (r := r)
    generalize hr' : cutR st tr r = r' at hq m2 m3 hfl hex
    obtain ⟨x, e1, s1⟩ := r'
    simp only at hex
    rw [← hex]
    cases x with
    | normal =>
      obtain ⟨m, hm, hIm⟩ := hq
      refine rounds_mono (k := m + 1) (by omega) (ih m hm hIm κ2 a' (m1.L.trans hL) m2 m3 k4 ?_)
      intro r κ3 a3 q b0 b1 b2 b3 b4 b5
      exact hR r κ3 a3 q (hfl.trans b0) (m1.trans b1) b2 b3 b4 (b5.trans k5)
    | exit i => exact hR (.exit i, e1, s1) κ2 a' hq hfl m1 m2 m3 k4 k5
    | ret => exact hR (.ret, e1, s1) κ2 a' hq hfl m1 m2 m3 k4 k5

/-! ### Regions in the order of the text -/
def opArgs (Pr : Prog) (e : Env) : SOp → Option (Nat × List V)
  | .call f args => (evs Pr e args).map fun vs => (f, vs)
  | .invoke table r args => match r.ev Pr e with
    | some (.d (.ifc tag agg ds)) => match table.lookup tag, mkV agg (ofDs ds), evs Pr e args with
      | some f, some v, some vs => some (f, v :: vs)
      | _, _, _ => none
    | _ => none
  | _ => none
def OpW (Pr : Prog) (e : Env) (st : St) (o : SOp) (Q : V → St → Prop) : Prop := match o with
  | .appR size bytes z s x => match s.ev Pr e, x.ev Pr e with
    | some vs, some vx => appW size bytes z st vs vx Q
    | _, _ => False
  | .call f args => match evs Pr e args with
    | some vs => CallW Pr f vs st Q
    | none => False
  | .invoke t r args => match opArgs Pr e (.invoke t r args) with
    | some (f, vs) => CallW Pr f vs st Q
    | none => False
  | o => match opS Pr (den Pr) e st o with
    | some (v, st') => Q v st'
    | none => False
def OpsW (Pr : Prog) (all : List SOper) : List SOper → Env → St → (Env → St → Prop) → Prop
  | [], e, st, Q => Q e st
  | o :: r, e, st, Q => match wants all e o.guard with
    | some true => OpW Pr e st o.op fun v st' => OpsW Pr all r (put e o.dst v) st' Q
    | some false => OpsW Pr all r (put e o.dst .un) st Q
    | none => False
theorem opW_sound {P : Program} {L : Link} (ht : Tie P Pr L) {κ : K} (hL : κ.L = L) (hi : Inv Pr κ st) {a : Act} (hE : ERel κ e a) {o : Oper} {s : SOp} (hok : okOp P L o.op s = true) {Q : V → St → Prop} (h : OpW Pr e st s Q)
    {next : Act → World → Prop} {R : Exit → Act → World → Prop} (hn : ∀ κ' v x st', κ.le κ' → Inv Pr κ' st' → Rep κ' x v → Fl st st' → Q x st' → next (a.put o.dst v) κ'.w) : o.wp P a κ.w next R := by
  subst hL
  have hcall : ∀ f vs vals, CallW Pr f vs st Q → All2 (Rep κ) vs vals → (execOp a.eval o).run P κ.w = .ok (.enter (κ.L.fn f) vals.toArray) κ.w → o.wp P a κ.w next R := by
    intro f vs vals hc ha he
    unfold Oper.wp
    rw [he, Oper.upon_enter]
    refine (hc P κ.L ht κ vals rfl hi ha).mono ?_
    rintro e w' ⟨κ', v, r, st', rfl, rfl, h1, h2, h3, h4, h5⟩
    exact hn κ' v r st' h1 h2 h3 h4 h5
  have hother : ∀ {v : V} {st' : St}, opS Pr (den Pr) e st s = some (v, st') → Q v st' → o.wp P a κ.w next R := by
    intro v st' hrun hQ
    obtain ⟨k, hrun⟩ := den_runF hrun
    refine op_sound (runF_sound ht.m ht.t k) hi hE hok hrun ?_
    intro κ' u k1 k2 k3
    exact hn κ' u v st' k1 k2 k3 (opS_fl (runF_fl k) hrun) hQ
  obtain ⟨dst, guard, op, type, pos, after⟩ : True ∧ True ∧ True ∧ True ∧ True ∧ True := ⟨trivial, trivial, trivial, trivial, trivial, trivial⟩
  cases s <;> simp only [OpW] at h
  case appR size bytes z y x =>
    split at h
    case h_2 => exact h.elim
    rename_i vy vx hy hx
    obtain ⟨odst, oop, oty, opos, oaf, ogu⟩ := o
    simp only [okOp] at hok
    split at hok
    case h_2 => cases hok
    rename_i a' b' t u
    simp only [Bool.and_eq_true] at hok
    obtain ⟨⟨⟨o1, o2⟩, o3⟩, o4⟩ := hok
    obtain ⟨el, hu, he⟩ := elemOk_spec o1
    simp only [Bool.and_eq_true] at he
    have hxt : ∃ d, P.underlying u = some d ∧ ∀ k, d ≠ .int k := by
      unfold appSrc at o2
      split at o2
      · rename_i hq; exact ⟨_, hq, by simp⟩
      · rename_i hq; exact ⟨_, hq, by simp⟩
      · cases o2
    obtain ⟨r, st', hm, hf, hq⟩ := appR_mem (ty := oty) hi hu hxt he.1.1 he.1.2 he.2 h (opd_sound hi hE o3 hy) (opd_sound hi hE o4 hx)
    refine wp_mem' (s := Builtin.append_ #[t, u] oty #[a.eval a', a.eval b']) (by simp [execOp, resolve, invoke, builtin]) hm ?_
    intro κ' v k1 k2 k3
    exact hn κ' v r st' k1 k2 k3 hf hq
  case call f args =>
    split at h
    case h_2 => exact h.elim
    rename_i vs hvs
    have hc := h
    obtain ⟨odst, oop, oty, opos, oaf, ogu⟩ := o
    simp only [okOp] at hok
    split at hok
    case h_2 => cases hok
    rename_i g as at'
    simp only [Bool.and_eq_true, beq_iff_eq] at hok
    obtain ⟨⟨rfl, o1⟩, o2⟩ := hok
    refine hcall f vs _ hc (opds_sound hi hE o2 hvs) ?_
    have harr : Array.map a.eval as = (List.map a.eval as.toList).toArray := by rw [← Array.toList_map, Array.toArray_toList]
    simp [execOp, resolve, Deferred.ofValue, Act.eval, invoke, okCall_run o1]
    exact harr
  case invoke table r args =>
    split at h
    case h_2 => exact h.elim
    rename_i f vs0 harg
    have hc := h
    obtain ⟨odst, oop, oty, opos, oaf, ogu⟩ := o
    unfold opArgs at harg
    simp only at harg
    split at harg
    case h_2 => cases harg
    rename_i tag agg ds hr
    split at harg
    case h_2 => cases harg
    rename_i f' v vs hf hv hvs
    simp only [Option.some.injEq, Prod.mk.injEq] at harg
    obtain ⟨rfl, rfl⟩ := harg
    simp only [okOp] at hok
    split at hok
    case h_2 => cases hok
    rename_i a' name as at'
    simp only [Bool.and_eq_true] at hok
    obtain ⟨⟨o1, o2⟩, o3⟩ := hok
    obtain ⟨m1, m2⟩ := okTable_spec o2 hf
    have hrr : RepD _ _ _ _ := opd_sound hi hE o1 hr
    simp only [RepD] at hrr
    obtain ⟨l, h1, h2, h3⟩ := hrr
    have hrecv := mkV_rep hv (ofDs_rep (RepA.all2.1 h3))
    refine hcall f' (v :: vs) _ hc (.cons (Rep.of1 hrecv) (opds_sound hi hE o3 hvs)) ?_
    have hpos : 0 < Made.depth := by decide
    obtain ⟨n, hn'⟩ : ∃ n, P.types.size + Made.depth = n + 1 := ⟨P.types.size + Made.depth - 1, by omega⟩
    have hext : ∀ (x : Value) (l : List Value), ((#[x] ++ l.toArray).extract 1 (#[x] ++ l.toArray).size) = l.toArray := fun x l => by simp
    have harr : Array.map a.eval as = (List.map a.eval as.toList).toArray := by rw [← Array.toList_map, Array.toArray_toList]
    simp [execOp, resolve, invoke, h1, callMethod, hn', run_method_plain m1, okCall_run m2, harr]
    exact List.take_of_length_le (by simp)
  all_goals
    (split at h
     case h_2 => exact h.elim
     rename_i v st' hrun
     exact hother hrun h)
theorem opsW_sound {P : Program} {L : Link} (ht : Tie P Pr L) {n : Nat} {ops : Array Oper} {ss : List SOper} (hok : okOpers P L n ops.toList ss = true) {R : Exit → Act → World → Prop} :
    ∀ {l : List Oper} {r : List SOper} {κ : K} {e : Env} {st : St} {a : Act} {Q : Env → St → Prop}, κ.L = L → okOpers P L n l r = true → Inv Pr κ st → ERel κ e a → a.tmps.size = n → OpsW Pr ss r e st Q →
      (∀ κ' a' e' st', Q e' st' → Fl st st' → κ.le κ' → Inv Pr κ' st' → ERel κ' e' a' → a'.tmps.size = n → a'.defers = a.defers → R .normal a' κ'.w) → wpList P ops R l a κ.w
  | [], [], κ, e, st, a, Q, hL, _, hi, hE, hn, h, hQ => hQ κ a e st h (Fl.refl _) (K.le.refl _) hi hE hn rfl
  | o :: l, s :: r, κ, e, st, a, Q, hL, hlr, hi, hE, hn, h, hQ => by
    simp only [okOpers, Bool.and_eq_true] at hlr
    obtain ⟨h1, h2, h3, h4⟩ := okOper_spec hlr.1
    simp only [OpsW] at h
    split at h
    · rename_i hw
      have hwant := wanted_sound (κ := κ) (hL ▸ hok) hE h2 hw
      unfold wpList
      rw [if_pos hwant]
      refine .inl (opW_sound ht hL hi hE h4 h ?_)
      intro κ' u v st' k1 k2 k3 k4 k5
      refine opsW_sound ht hok (k1.L.trans hL) hlr.2 k2 ?_ (by rw [put_size]; exact hn) k5 (fun κ2 a2 e2 st2 m0 m00 m1 m2 m3 m4 m5 => hQ κ2 a2 e2 st2 m0 (k4.trans m00) (k1.trans m1) m2 m3 m4 (m5.trans (put_defs _ _ _)))
      rw [h1]
      exact erel_put (hE.mono k1) k3 (fun j hj => by rw [hn]; exact h3 j hj)
    · rename_i hw
      have hwant := wanted_sound (κ := κ) (hL ▸ hok) hE h2 hw
      unfold wpList
      rw [hwant]
      simp only [Bool.false_eq_true, if_false]
      refine opsW_sound ht hok hL hlr.2 hi ?_ (by rw [put_size]; exact hn) h (fun κ2 a2 e2 st2 m0 m00 m1 m2 m3 m4 m5 => hQ κ2 a2 e2 st2 m0 m00 m1 m2 m3 m4 (m5.trans (put_defs _ _ _)))
      rw [h1]
      exact erel_put (x := .un) hE rfl (fun j hj => by rw [hn]; exact h3 j hj)
    · exact h.elim
  | [], _ :: _, _, _, _, _, _, _, h, _, _, _, _, _ => by simp [okOpers] at h
  | _ :: _, [], _, _, _, _, _, _, h, _, _, _, _, _ => by simp [okOpers] at h
theorem CodeW.region {ops : List SOper} {B : List Nat} (h : OpsW Pr ops ops e st fun e' st' => Q (.normal, e', st')) : CodeW Pr (.region ops false B) e st Q := by
  intro P L ht n code hok κ a R hL hi hE hn hR
  simp only [okCode] at hok
  split at hok
  case h_2 => cases hok
  rename_i id aops d'
  simp only [Bool.and_eq_true, beq_iff_eq, Bool.or_eq_true, Bool.not_eq_true'] at hok
  obtain ⟨⟨rfl, h1⟩, h2⟩ := hok
  refine wp_region_list (opsW_sound ht h1 hL h1 hi hE hn h ?_)
  intro κ' a' e' st' q k0 k1 k2 k3 k4 k5
  exact hR (.normal, e', st') κ' a' q k0 k1 k2 k3 k4 k5
/-- A region with an order of its own. -/
theorem CodeW.drawn {ops : List SOper} {B : List Nat} {e' : Env} {st' : St} (h : opsS Pr (den Pr) ops ops e st = some (e', st')) (hQ : Q (.normal, e', st')) : CodeW Pr (.region ops true B) e st Q := by
  refine .of_cden (r := (.normal, e', st')) ?_ hQ
  rw [cden_region, h]

/-! ### Functions -/
def FinW (fn : SFn) (st : St) (Q : V → St → Prop) (r : Out) : Prop := match r with
  | (.exit _, _, _) => False
  | (_, e, st') => ∃ v, resV e st' fn.results = some v ∧ (if fn.pure then ∃ z, esc st' st.heap.length st.tips.length v = some z ∧ Q z st else Q v st')
theorem CallW.of_body {f : Nat} {fn : SFn} {args : List V} {Q : V → St → Prop} (hf : Pr.fn f = some fn) (hn : args.length = fn.nparams) (h : CodeW Pr fn.body (initE 0 args) (start fn st) (FinW fn st Q)) : CallW Pr f args st Q := by
  intro P L ht κ vals hL hi ha
  obtain ⟨gf, h1, h2⟩ := ht.t f fn hf
  unfold okFn at h2
  split at h2
  case h_2 => cases h2
  rename_i c hc
  simp only [Bool.and_eq_true, decide_eq_true_eq] at h2
  obtain ⟨⟨b1, b2⟩, b3⟩ := h2
  refine calls_of_wp h1 hc ?_
  have hlen := ha.length
  have hi' : Inv Pr κ (start fn st) := by
    unfold start
    split
    · exact hi.floor
    · exact hi
  refine h P L ht gf.ntmps c b1 κ _ _ hL hi' ?_ ?_ ?_
  · intro i v hv
    obtain ⟨_, hv⟩ := initE_get hv
    simp only [Nat.sub_zero] at hv
    obtain ⟨y, hy, hrep⟩ := ha.get hv
    have hlt := (List.getElem?_eq_some_iff.1 hy).1
    refine ⟨by simp; omega, ?_⟩
    rw [Array.getD_eq_getD_getElem?, Array.getElem?_append_left (by simpa using hlt)]
    simpa [hy] using hrep
  · simp; omega
  · rintro ⟨x, e1, s1⟩ κ' a' hq hfl' k1 k2 k3 k4 k5
    have main : ∀ v, resV e1 s1 fn.results = some v → (if fn.pure then ∃ z, esc s1 st.heap.length st.tips.length v = some z ∧ Q z st else Q v s1) →
        ∃ u, (results gf a'.tmps).run P κ'.w = .ok u κ'.w ∧ Ends Pr κ st Q (.returned u) κ'.w := by
      intro v hv hres
      obtain ⟨u, g1, g2⟩ := results_sound k2 k3 b2 hv
      refine ⟨u, g1, ?_⟩
      split at hres
      · rename_i hp
        obtain ⟨z, hz, hQ⟩ := hres
        unfold start at hfl'
        rw [if_pos hp] at hfl'
        have hheap : s1.heap.take st.heap.length = st.heap := by
          refine List.ext_getElem? fun i => ?_
          rw [List.getElem?_take]
          split
          · rename_i hlt
            exact hfl'.heap i hlt hlt
          · rename_i hge
            rw [List.getElem?_eq_none (by omega)]
        have htips : s1.tips.take st.tips.length = st.tips := by
          refine List.ext_getElem? fun i => ?_
          rw [List.getElem?_take]
          split
          · rename_i hlt
            exact hfl'.tips i hlt hlt
          · rename_i hge
            rw [List.getElem?_eq_none (by omega)]
        obtain ⟨m1, m2⟩ := Inv.cut hi k1 k2 hheap (f := st.floor) (tf := st.tfloor)
        rw [htips] at m2
        exact ⟨κ'.cut st.heap.length st.tips.length, u, z, st, rfl, rfl, m1, m2, escT_rep k2 hz g2, Fl.refl _, hQ⟩
      · rename_i hp
        exact ⟨κ', u, v, s1, rfl, rfl, k1, k2, g2, by simpa [start, hp] using hfl', hres⟩
    cases x with
    | exit i => exact hq.elim
    | normal =>
      obtain ⟨v, hv, hq⟩ := hq
      obtain ⟨u, m1, m2⟩ := main v hv hq
      exact ⟨k5, u, m1, m2⟩
    | ret =>
      obtain ⟨v, hv, hq⟩ := hq
      obtain ⟨u, m1, m2⟩ := main v hv hq
      exact ⟨k5, u, m1, m2⟩
end
end Go.Sh
