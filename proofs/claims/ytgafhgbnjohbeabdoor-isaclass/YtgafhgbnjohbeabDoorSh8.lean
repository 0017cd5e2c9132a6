/- Equality; interface values; tuples; what is built. -/
import Derived.Test.YtgafhgbnjohbeabDoorSh7
set_option linter.unusedVariables false
set_option linter.unusedSimpArgs false
namespace Go.Sh
open Go.RowKit
section
variable {P : Program} {Pr : Prog} {κ : K} {st : St} {w : World}

/-! ### Equality of structs -/
def eqFs (P : Program) (kOf : TypeId → Option (List Nat)) : List Field → Nat → Option (List Nat)
  | [], _ => some []
  | f :: fs, off => match kOf f.type with
    | some ks => if f.name ≠ "_" ∧ f.offset = off ∧ szIs P f.type ks.length = true ∧ (aggIs P f.type true || (aggIs P f.type false && ks.length == 1)) = true then (eqFs P kOf fs (off + ks.length)).map (ks ++ ·) else none
    | none => none
def eqTy (P : Program) : Nat → TypeId → Option (List Nat)
  | 0, _ => none
  | d + 1, t => match P.underlying t with
    | some (.int _) => some [0]
    | some .bool => some [1]
    | some .string => some [2]
    | some (.struct fs) => if P.stoodInHeld t then none else eqFs P (eqTy P d) fs.toList 0
    | _ => none
theorem eqDs_len : ∀ {ks : List Nat} {a b : List D} {r : Bool}, eqDs ks a b = some true → a.length = ks.length ∧ b.length = ks.length
  | [], [], [], _, _ => ⟨rfl, rfl⟩
  | k :: ks, x :: xs, y :: ys, _, h => by
    simp only [eqDs] at h
    split at h
    · have := eqDs_len (r := true) h
      simp [this.1, this.2]
    · cases h
    · cases h
  | [], [], _ :: _, _, h => by simp [eqDs] at h
  | [], _ :: _, _, _, h => by simp [eqDs] at h
  | _ :: _, [], _, _, h => by simp [eqDs] at h
  | _ :: _, _ :: _, [], _, h => by simp [eqDs] at h
theorem eqDs_append : ∀ {ks js : List Nat} {a b : List D}, ks.length ≤ a.length → ks.length ≤ b.length → eqDs (ks ++ js) a b = match eqDs ks (a.take ks.length) (b.take ks.length) with
    | some true => eqDs js (a.drop ks.length) (b.drop ks.length)
    | r => r
  | [], js, a, b, _, _ => by simp [eqDs]
  | k :: ks, js, x :: a, y :: b, h1, h2 => by
    simp only [List.cons_append, List.length_cons, List.take_succ_cons, List.drop_succ_cons, eqDs]
    cases hq : eqK k x y with
    | none => rfl
    | some r => cases r with
      | true => exact eqDs_append (by simpa using h1) (by simpa using h2)
      | false => rfl
  | k :: ks, js, [], b, h, _ => by simp at h
  | k :: ks, js, x :: a, [], _, h => by simp at h
/-- A value of so many cells, a struct or not. -/
def Val (P : Program) (t : TypeId) (l : List Value) (v : Value) : Prop := (aggIs P t true = true ∧ v = .agg l.toArray) ∨ (aggIs P t false = true ∧ l = [v])
theorem run_part_val {t : TypeId} {n : Nat} {l : List Value} {off : Nat} (hs : szIs P t n = true) (hg : (aggIs P t true || (aggIs P t false && n == 1)) = true) (hl : off + n ≤ l.length) :
    ∃ v, (part t l.toArray off).run P w = .ok v w ∧ Val P t ((l.drop off).take n) v := by
  simp only [Bool.or_eq_true, Bool.and_eq_true, beq_iff_eq] at hg
  unfold part
  rcases hg with hg | ⟨hg, rfl⟩
  · refine ⟨.agg ((l.drop off).take n).toArray, ?_, .inl ⟨hg, rfl⟩⟩
    simp only [Sem.run_bind, run_isAgg hg, Result.andThen_ok, if_true, run_sizeOf hs, Sem.run_pure]
    congr 2
    simp [List.extract_toArray, List.take_drop, Nat.add_comm]
  · have hlt : off < l.length := by omega
    refine ⟨l[off], ?_, .inr ⟨hg, ?_⟩⟩
    · simp [run_isAgg hg, hlt]
    · rw [List.drop_eq_getElem_cons hlt]
      rfl
/-- What the machine's '==' gives at values of a type, so many levels deep. -/
def EqAt (P : Program) (κ : K) (w : World) (d : Nat) (t : TypeId) (ks : List Nat) : Prop := ∀ (dx dy : List D) (lx ly : List Value) (vx vy : Value) (b : Bool), eqDs ks dx dy = some b → All2 (RepD κ.L κ.imm) dx lx → All2 (RepD κ.L κ.imm) dy ly → Val P t lx vx → Val P t ly vy →
  dx.length = ks.length → dy.length = ks.length → ∀ d', d ≤ d' → (Op.equalIn d' t vx vy).run P w = .ok b w
theorem eqFs_sound {d d' : Nat} (hd : d ≤ d') (ih : ∀ t ks, eqTy P d t = some ks → EqAt P κ w d t ks) : ∀ (fs : List Field) (off : Nat) (ks : List Nat), eqFs P (eqTy P d) fs off = some ks →
    ∀ (dx dy : List D) (lx ly : List Value) (b : Bool), eqDs ks (dx.drop off) (dy.drop off) = some b → All2 (RepD κ.L κ.imm) dx lx → All2 (RepD κ.L κ.imm) dy ly → dx.length = off + ks.length → dy.length = off + ks.length →
    (Op.eqFields d' lx.toArray ly.toArray fs).run P w = .ok b w
  | [], off, ks, h, dx, dy, lx, ly, b, he, hx, hy, h1, h2 => by
    simp only [eqFs, Option.some.injEq] at h
    subst h
    simp only [List.length_nil, Nat.add_zero] at h1 h2
    rw [← h1, List.drop_length] at he
    rw [show dy.drop dx.length = [] from List.drop_eq_nil_of_le (by omega)] at he
    simp only [eqDs, Option.some.injEq] at he
    subst he
    simp [Op.eqFields]
  | f :: fs, off, ks, h, dx, dy, lx, ly, b, he, hx, hy, h1, h2 => by
    simp only [eqFs] at h
    split at h
    · rename_i k1 hk1
      split at h
      · rename_i hc
        obtain ⟨hn, ho, hs, hg⟩ := hc
        simp only [Option.map_eq_some_iff] at h
        obtain ⟨k2, hk2, rfl⟩ := h
        simp only [List.length_append] at h1 h2
        rw [eqDs_append (by simp only [List.length_drop]; omega) (by simp only [List.length_drop]; omega)] at he
        have lx1 := hx.length
        have ly1 := hy.length
        obtain ⟨vx, rx, vlx⟩ := run_part_val (P := P) (w := w) (l := lx) (off := f.offset) hs hg (by omega)
        obtain ⟨vy, ry, vly⟩ := run_part_val (P := P) (w := w) (l := ly) (off := f.offset) hs hg (by omega)
        have hone := fun (r : Bool) (hr : eqDs k1 ((dx.drop off).take k1.length) ((dy.drop off).take k1.length) = some r) =>
          ih f.type k1 hk1 _ _ _ _ vx vy r hr ((hx.drop off).take _) ((hy.drop off).take _) (by rw [← ho]; exact vlx) (by rw [← ho]; exact vly) (by simp only [List.length_take, List.length_drop]; omega) (by simp only [List.length_take, List.length_drop]; omega) d' hd
        simp only [Op.eqFields, ne_eq, hn, not_false_eq_true, if_true, Sem.run_bind, rx, ry, Result.andThen_ok]
        cases hq : eqDs k1 ((dx.drop off).take k1.length) ((dy.drop off).take k1.length) with
        | none => rw [hq] at he; cases he
        | some r =>
          rw [hone r hq]
          rw [hq] at he
          cases r with
          | false =>
            simp only [Option.some.injEq] at he
            subst he
            simp
          | true =>
            simp only [List.drop_drop] at he
            have := eqFs_sound hd ih fs (off + k1.length) k2 hk2 dx dy lx ly b he hx hy (by omega) (by omega)
            simpa using this
      · cases h
    · cases h
theorem eqTy_sound : ∀ (d : Nat) (t : TypeId) (ks : List Nat), eqTy P d t = some ks → EqAt P κ w d t ks
  | 0, t, ks, h => by simp [eqTy] at h
  | d + 1, t, ks, h => by
    intro dx dy lx ly vx vy b he hx hy hvx hvy h1 h2 d' hd'
    obtain ⟨d', rfl⟩ : ∃ m, d' = m + 1 := ⟨d' - 1, by omega⟩
    have single : ∀ k, ks = [k] → aggIs P t true = false → ∃ x y, dx = [x] ∧ dy = [y] ∧ RepD κ.L κ.imm x vx ∧ RepD κ.L κ.imm y vy ∧ eqK k x y = some b := by
      rintro k rfl hna
      match dx, h1, dy, h2 with
      | [x], _, [y], _ =>
        cases hx with
        | cons hx1 hx2 =>
          cases hx2
          cases hy with
          | cons hy1 hy2 =>
            cases hy2
            rcases hvx with ⟨ha, _⟩ | ⟨_, hvx⟩
            · rw [hna] at ha; cases ha
            rcases hvy with ⟨ha, _⟩ | ⟨_, hvy⟩
            · rw [hna] at ha; cases ha
            simp only [List.cons.injEq, and_true] at hvx hvy
            subst hvx
            subst hvy
            refine ⟨x, y, rfl, rfl, hx1, hy1, ?_⟩
            simp only [eqDs] at he
            split at he
            · rename_i hk; simp only [Option.some.injEq] at he; subst he; exact hk
            · rename_i hk; simp only [Option.some.injEq] at he; subst he; exact hk
            · cases he
    simp only [eqTy] at h
    split at h
    · rename_i k hu
      simp only [Option.some.injEq] at h
      obtain ⟨x, y, rfl, rfl, rx, ry, hk⟩ := single 0 h.symm (by simp [aggIs, hu])
      unfold eqK at hk
      split at hk <;> try (cases hk; done)
      · split at hk
        · rename_i hk1
          subst hk1
          simp only [Option.some.injEq] at hk
          subst hk
          rw [repD_i] at rx ry
          subst rx
          subst ry
          exact run_equalIn_int (P := P) w d' t _ k _ _ hu
        · cases hk
      all_goals simp_all
    · rename_i hu
      simp only [Option.some.injEq] at h
      obtain ⟨x, y, rfl, rfl, rx, ry, hk⟩ := single 1 h.symm (by simp [aggIs, hu])
      unfold eqK at hk
      split at hk <;> try (cases hk; done)
      all_goals first
        | (simp only [Option.some.injEq] at hk
           subst hk
           rw [repD_b] at rx ry
           subst rx
           subst ry
           exact run_equalIn_bool' (P := P) w d' t _ _ hu)
        | simp_all
    · rename_i hu
      simp only [Option.some.injEq] at h
      obtain ⟨x, y, rfl, rfl, rx, ry, hk⟩ := single 2 h.symm (by simp [aggIs, hu])
      unfold eqK at hk
      split at hk <;> try (cases hk; done)
      all_goals first
        | (simp only [Option.some.injEq] at hk
           subst hk
           rw [repD_s] at rx ry
           subst rx
           subst ry
           rw [run_equalIn_string (P := P) w d' t _ _ hu, toList_mk, toList_mk])
        | simp_all
    · rename_i fs hu
      split at h
      · cases h
      rename_i hst
      have hfs : P.fieldsOf t = fs := by simp [Program.fieldsOf, hu]
      rcases hvx with ⟨_, rfl⟩ | ⟨ha, _⟩
      case inr => simp [aggIs, hu] at ha
      rcases hvy with ⟨_, rfl⟩ | ⟨ha, _⟩
      case inr => simp [aggIs, hu] at ha
      rw [run_equalIn_struct (P := P) w d' t _ _ (by rw [hfs]; exact hu) (by simpa using hst), hfs]
      exact eqFs_sound (by omega) (fun t ks h => eqTy_sound d t ks h) fs.toList 0 ks h dx dy lx ly b (by simpa using he) hx hy (by omega) (by omega)
    · cases h

def isConst : Operand → Bool
  | .const _ => true
  | _ => false
def okEqTy (P : Program) (t : TypeId) (xo yo : Operand) (ks : List Nat) : Bool := match ks with
  | [10] => (match P.underlying t with | some (.interface _) => true | _ => false) && (isConst xo || isConst yo)
  | [11] => match P.underlying t with | some (.slice _) => true | _ => false
  | [12] => match P.underlying t with | some (.pointer _) => true | _ => false
  | [13] => match P.underlying t with | some (.map _ _) => true | _ => false
  | 9 :: ks => decide (eqTy P 8 t = some ks) && !P.eqGuardType P.depth t && aggIs P t true
  | [1] => match P.underlying t with | some .bool => true | _ => false
  | _ => false
theorem eqGuard_agg {op : BinOp} {t : TypeId} {x y : Operand} {a b : Array Value} (h : P.eqGuardType P.depth t = false) : (eqGuard op t x y (.agg a) (.agg b)).run P w = .ok () w := by
  unfold eqGuard
  cases op <;> simp [h]
theorem eqGuard_slice {op : BinOp} {t : TypeId} {x y : Operand} {A : Option Addr} {n c : Nat} {b : Value} : (eqGuard op t x y (.slice A n c) b).run P w = .ok () w := by cases op <;> rfl
theorem eqGuard_ptr {op : BinOp} {t : TypeId} {x y : Operand} {A : Option Addr} {b : Value} : (eqGuard op t x y (.pointer A) b).run P w = .ok () w := by cases op <;> rfl
theorem eqGuard_map {op : BinOp} {t : TypeId} {x y : Operand} {A : Option Nat} {b : Value} : (eqGuard op t x y (.map A) b).run P w = .ok () w := by cases op <;> rfl
theorem eqGuard_if1 {op : BinOp} {t : TypeId} {x y : Operand} {u : TypeId} {v b : Value} : (eqGuard op t x y (.iface u v) b).run P w = .ok () w := by cases op <;> rfl
theorem eqGuard_if2 {op : BinOp} {t : TypeId} {x y : Operand} {u : TypeId} {v : Value} : (eqGuard op t x y .nilIface (.iface u v)).run P w = .ok () w := by cases op <;> rfl
theorem eqi_if {d : Nat} {t : TypeId} {ms : Array (String × TypeId)} (hu : P.underlying t = some (.interface ms)) : (Op.equalIn (d + 1) t .nilIface .nilIface).run P w = .ok true w ∧ (∀ u v, (Op.equalIn (d + 1) t .nilIface (.iface u v)).run P w = .ok false w) ∧ (∀ u v, (Op.equalIn (d + 1) t (.iface u v) .nilIface).run P w = .ok false w) :=
  ⟨by simp [Op.equalIn, run_underlying hu], fun u v => by simp [Op.equalIn, run_underlying hu], fun u v => by simp [Op.equalIn, run_underlying hu]⟩
theorem eqi_sl {d : Nat} {t e : TypeId} (hu : P.underlying t = some (.slice e)) (A : Option Addr) (n c m k : Nat) : (Op.equalIn (d + 1) t (.slice A n c) (.slice none m k)).run P w = .ok A.isNone w := by
  cases A <;> simp [Op.equalIn, run_underlying hu]
theorem eqi_ptr {d : Nat} {t e : TypeId} (hu : P.underlying t = some (.pointer e)) (A : Option Addr) : (Op.equalIn (d + 1) t (.pointer A) (.pointer none)).run P w = .ok A.isNone w := by
  cases A <;> simp [Op.equalIn, run_underlying hu]
theorem eqi_map {d : Nat} {t k e : TypeId} (hu : P.underlying t = some (.map k e)) (A : Option Nat) : (Op.equalIn (d + 1) t (.map A) (.map none)).run P w = .ok A.isNone w := by
  cases A <;> simp [Op.equalIn, run_underlying hu]
/-- What '==' and '!=' come to where the machine's equality comes to b. -/
theorem eq_run {t : TypeId} {xo yo : Operand} {vx vy : Value} {b neg : Bool} (hg : ∀ op, (eqGuard op t xo yo vx vy).run P w = .ok () w) (he : (Op.equal t vx vy).run P w = .ok b w)
    (hform : ∀ op, (op = .eql → binOp op t vx vy = (do pure (.bool (← Op.equal t vx vy)))) ∧ (op = .neq → binOp op t vx vy = (do pure (.bool (!(← Op.equal t vx vy))))) ) :
    (do eqGuard (if neg then .neq else .eql) t xo yo vx vy; binOp (if neg then .neq else .eql) t vx vy : Sem Value).run P w = .ok (.bool (if neg then !b else b)) w := by
  cases neg with
  | true => simp only [if_true, Sem.run_bind, hg, Result.andThen_ok, (hform .neq).2 rfl, he, Sem.run_pure]
  | false => simp only [Bool.false_eq_true, if_false, Sem.run_bind, hg, Result.andThen_ok, (hform .eql).1 rfl, he, Sem.run_pure]
theorem eqv_sound {neg : Bool} {t : TypeId} {xo yo : Operand} {ks : List Nat} {x y : V} {b : Bool} (hok : okEqTy P t xo yo ks = true) (h : eqV ks x y = some b) {vx vy : Value} (hx : Rep κ x vx) (hy : Rep κ y vy) :
    (do eqGuard (if neg then .neq else .eql) t xo yo vx vy; binOp (if neg then .neq else .eql) t vx vy : Sem Value).run P w = .ok (.bool (if neg then !b else b)) w := by
  unfold eqV at h
  split at h
  · -- an interface value and nil
    simp only [okEqTy, Bool.and_eq_true] at hok
    obtain ⟨hu, hcon⟩ := hok
    split at hu
    case h_2 => cases hu
    rename_i ms hu'
    split at h
    · simp only [Option.some.injEq] at h
      subst h
      have hx : RepD _ _ _ _ := hx
      have hy : RepD _ _ _ _ := hy
      simp only [RepD] at hx hy
      subst hx
      subst hy
      refine eq_run (fun op => ?_) (eqi_if (d := 9999) hu').1 (fun op => ⟨by rintro rfl; rfl, by rintro rfl; rfl⟩)
      unfold eqGuard
      simp only [Bool.or_eq_true] at hcon
      cases xo <;> cases yo <;> simp [isConst] at hcon <;> cases op <;> rfl
    · simp only [Option.some.injEq] at h
      subst h
      have hx : RepD _ _ _ _ := hx
      have hy : RepD _ _ _ _ := hy
      simp only [RepD] at hx hy
      subst hx
      obtain ⟨l, rfl, _⟩ := hy
      exact eq_run (fun op => eqGuard_if2) ((eqi_if (d := 9999) hu').2.1 _ _) (fun op => ⟨by rintro rfl; rfl, by rintro rfl; rfl⟩)
    · simp only [Option.some.injEq] at h
      subst h
      have hx : RepD _ _ _ _ := hx
      have hy : RepD _ _ _ _ := hy
      simp only [RepD] at hx hy
      subst hy
      obtain ⟨l, rfl, _⟩ := hx
      exact eq_run (fun op => eqGuard_if1) ((eqi_if (d := 9999) hu').2.2 _ _) (fun op => ⟨by rintro rfl; rfl, by rintro rfl; rfl⟩)
    · cases h
  · -- a slice and nil
    simp only [okEqTy] at hok
    split at hok
    case h_2 => cases hok
    rename_i e hu
    have hy' : ∀ {v : Value}, Rep κ (.d (.sl 0 false [])) v → ∃ n c, v = .slice none n c := fun hv => by
      have hv : RepD _ _ _ _ := hv
      simp only [RepD] at hv
      obtain ⟨A, cap, rfl, _, h3, _⟩ := hv
      cases A with
      | none => exact ⟨0, cap, rfl⟩
      | some a => simp at h3
    have main : ∀ (A : Option Addr) (n c m k : Nat), (do eqGuard (if neg then .neq else .eql) t xo yo (.slice A n c) (.slice none m k); binOp (if neg then .neq else .eql) t (.slice A n c) (.slice none m k) : Sem Value).run P w = .ok (.bool (if neg then !(A.isNone) else A.isNone)) w := fun A n c m k => by
      exact eq_run (fun op => eqGuard_slice) (eqi_sl (d := 9999) hu A n c m k) (fun op => ⟨by rintro rfl; rfl, by rintro rfl; rfl⟩)
    split at h
    · simp only [Option.some.injEq] at h
      subst h
      obtain ⟨m, k, rfl⟩ := hy' hy
      have hx : RepD _ _ _ _ := hx
      simp only [RepD] at hx
      obtain ⟨A, cap, rfl, _, rfl, _⟩ := hx
      rw [main]
      cases A <;> rfl
    · simp only [Option.some.injEq] at h
      subst h
      obtain ⟨m, k, rfl⟩ := hy' hy
      have hx : RepD _ _ _ _ := hx.1
      simp only [RepD] at hx
      obtain ⟨A, cap, rfl, _, rfl, _⟩ := hx
      rw [main]
      cases A <;> rfl
    · simp only [Option.some.injEq] at h
      subst h
      obtain ⟨m, k, rfl⟩ := hy' hy
      obtain ⟨b, o, _, rfl, _⟩ := hx
      rw [main]
      rfl
    · cases h
  · -- a pointer and nil
    simp only [okEqTy] at hok
    split at hok
    case h_2 => cases hok
    rename_i e hu
    have main : ∀ (A : Option Addr), (do eqGuard (if neg then .neq else .eql) t xo yo (.pointer A) (.pointer none); binOp (if neg then .neq else .eql) t (.pointer A) (.pointer none) : Sem Value).run P w = .ok (.bool (if neg then !(A.isNone) else A.isNone)) w := fun A => by
      exact eq_run (fun op => eqGuard_ptr) (eqi_ptr (d := 9999) hu A) (fun op => ⟨by rintro rfl; cases A <;> rfl, by rintro rfl; cases A <;> rfl⟩)
    split at h
    · simp only [Option.some.injEq] at h
      subst h
      have hy : RepD _ _ _ _ := hy
      simp only [RepD] at hy
      subst hy
      obtain ⟨b, _, rfl⟩ := hx
      exact main _
    · simp only [Option.some.injEq] at h
      subst h
      have hy : RepD _ _ _ _ := hy
      simp only [RepD] at hy
      subst hy
      obtain ⟨A, rfl, _⟩ := hx
      exact main _
    · simp only [Option.some.injEq] at h
      subst h
      have hx : RepD _ _ _ _ := hx
      have hy : RepD _ _ _ _ := hy
      simp only [RepD] at hx hy
      subst hx
      subst hy
      exact main _
    · cases h
  · -- a map and nil
    simp only [okEqTy] at hok
    split at hok
    case h_2 => cases hok
    rename_i k e hu
    have main : ∀ (A : Option Nat), (do eqGuard (if neg then .neq else .eql) t xo yo (.map A) (.map none); binOp (if neg then .neq else .eql) t (.map A) (.map none) : Sem Value).run P w = .ok (.bool (if neg then !(A.isNone) else A.isNone)) w := fun A => by
      exact eq_run (fun op => eqGuard_map) (eqi_map (d := 9999) hu A) (fun op => ⟨by rintro rfl; rfl, by rintro rfl; rfl⟩)
    split at h
    · simp only [Option.some.injEq] at h
      subst h
      have hy : RepD _ _ _ _ := hy
      simp only [RepD] at hy
      subst hy
      obtain ⟨b, _, rfl⟩ := hx
      exact main _
    · simp only [Option.some.injEq] at h
      subst h
      have hx : RepD _ _ _ _ := hx
      have hy : RepD _ _ _ _ := hy
      simp only [RepD] at hx hy
      subst hx
      subst hy
      exact main _
    · cases h
  · -- cells of a struct
    simp only [okEqTy, Bool.and_eq_true, decide_eq_true_eq, Bool.not_eq_true'] at hok
    obtain ⟨⟨hty, hguard⟩, hagg⟩ := hok
    have hs := eqTy_sound (κ := κ) (w := w) 8 t _ hty
    split at h
    · split at h
      · rename_i a b' ha hb'
        split at h
        · rename_i hlen
          obtain ⟨lx, rfl, hax⟩ := hx
          obtain ⟨ly, rfl, hay⟩ := hy
          have rx := toDs_rep ha hax
          have ry := toDs_rep hb' hay
          exact eq_run (fun op => eqGuard_agg hguard) (hs a b' lx ly _ _ b h rx ry (.inl ⟨hagg, rfl⟩) (.inl ⟨hagg, rfl⟩) hlen.1 hlen.2 _ (by decide)) (fun op => ⟨by rintro rfl; rfl, by rintro rfl; rfl⟩)
        · cases h
      · cases h
    · cases h
  · -- a bool
    simp only [okEqTy] at hok
    split at hok
    case h_2 => cases hok
    rename_i hu
    split at h
    · simp only [Option.some.injEq] at h
      subst h
      rw [rep_b] at hx hy
      subst hx
      subst hy
      exact eq_run (fun op => eqGuard_bool) (run_equalIn_bool' (P := P) w 9999 t _ _ hu) (fun op => ⟨by rintro rfl; rfl, by rintro rfl; rfl⟩)
    · cases h
  · cases h
end
end Go.Sh
