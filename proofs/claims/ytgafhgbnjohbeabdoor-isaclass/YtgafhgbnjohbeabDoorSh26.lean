/- Evaluation by rewriting; loops. -/
import Derived.Test.YtgafhgbnjohbeabDoorSh25
set_option linter.unusedVariables false
set_option linter.unusedSimpArgs false
namespace Go.Sh

attribute [simp] opsS opS wants put bind1 pureR stR Opd.ev evs partsV evo Env.get resV resOne resAll initE finish arI cutR toDs
attribute [simp] cden_seq cden_region cden_cond cden_block cden_exit cden_ret cden_skip
attribute [simp] escs esc1s
@[simp] theorem int_beq (a b : Int) : (a == b) = decide (a = b) := by by_cases h : a = b <;> simp [h]
@[simp] theorem int_bne (a b : Int) : (a != b) = !decide (a = b) := by by_cases h : a = b <;> simp [h]
@[simp] theorem lenV_sl {n : Nat} {nz : Bool} {cs : List D} : lenV (.d (.sl n nz cs)) = some n := rfl
@[simp] theorem lenV_own {s n : Nat} {nz : Bool} {cs : List D} {t : Nat} : lenV (.own s n nz cs t) = some n := rfl
@[simp] theorem lenV_rsl {s i o n c : Nat} : lenV (.rsl s i o n c) = some n := rfl
@[simp] theorem lenS_s {l : List UInt8} : lenS (.d (.s l)) = some l.length := rfl
@[simp] theorem intV_i {k : IntKind} {n : Int} : intV (.d (.i k n)) = some n := rfl
@[simp] theorem binV_i {op : BinOp} {k k' : IntKind} {a b : Int} : binV op (.d (.i k a)) (.d (.i k' b)) = match op with
    | .shl | .shr => (shI op k a b).map .d
    | _ => if k = k' then (arI op k a b).map .d else none := rfl
@[simp] theorem binV_s {op : BinOp} {a b : List UInt8} : binV op (.d (.s a)) (.d (.s b)) = (binS op a b).map .d := rfl
@[simp] theorem unV_i {op : UnOp} {k : IntKind} {n : Int} : unV op (.d (.i k n)) = match op with
    | .neg => some (.d (.i k (k.wrap (0 - n))))
    | .xor => (bitI .xor k (if k.signed then -1 else k.max) n).map .d
    | _ => none := rfl
@[simp] theorem unV_b {op : UnOp} {b : Bool} : unV op (.d (.b b)) = match op with
    | .not => some (.d (.b (!b)))
    | _ => none := rfl
@[simp] theorem convV_i {k k' : IntKind} {n : Int} : convV k (.d (.i k' n)) = some (.d (.i k (k.wrap n))) := rfl
@[simp] theorem eqV_b {a b : Bool} : eqV [1] (.d (.b a)) (.d (.b b)) = some (a == b) := rfl
@[simp] theorem ok1_d {x : D} : V.ok1 (.d x) = true := rfl
@[simp] theorem ok1_agg {x : List V} : V.ok1 (.agg x) = true := rfl
@[simp] theorem ok1_ptr {i o : Nat} : V.ok1 (.ptr i o) = true := rfl
@[simp] theorem ok1_rsl {s i o n c : Nat} : V.ok1 (.rsl s i o n c) = true := rfl
@[simp] theorem ok1_own {s n : Nat} {nz : Bool} {cs : List D} {t : Nat} : V.ok1 (.own s n nz cs t) = true := rfl
@[simp] theorem cs_agg {x : List V} : V.cs (.agg x) = x := rfl
@[simp] theorem cs_d {x : D} : V.cs (.d x) = [.d x] := rfl
@[simp] theorem toD_d {x : D} : toD (.d x) = some x := rfl
@[simp] theorem toD_own {s n : Nat} {nz : Bool} {cs : List D} {t : Nat} : toD (.own s n nz cs t) = some (.sl n nz cs) := rfl
@[simp] theorem mkV_t {cs : List V} : mkV true cs = some (.agg cs) := rfl
@[simp] theorem mkV_f {c : V} : mkV false [c] = some c := rfl
@[simp] theorem toDs_ofDs' {ds : List D} : toDs (ofDs ds) = some ds := toDs_of ds
section
variable {st : St} {h t : Nat}
@[simp] theorem escC_d {x : D} : escC st h t (.d x) = some (.d x) := rfl
@[simp] theorem escC_ep {x : List D} : escC st h t (.ep x) = some (.ep x) := rfl
@[simp] theorem escC_ptr {i o : Nat} : escC st h t (.ptr i o) = if i < h then some (.ptr i o) else none := rfl
@[simp] theorem escC_map {i : Nat} : escC st h t (.map i) = if i < h then some (.map i) else none := rfl
@[simp] theorem escC_own {s n : Nat} {nz : Bool} {cs : List D} {k : Nat} : escC st h t (.own s n nz cs k) = if k < t then some (.own s n nz cs k) else some (.d (.sl n nz cs)) := rfl
@[simp] theorem escC_rsl {s i o n c : Nat} : escC st h t (.rsl s i o n c) = if i < h then some (.rsl s i o n c) else (cellsAt st i o (n * s)).map fun ds => .d (.sl n true ds) := rfl
@[simp] theorem esc1_d {x : D} : esc1 st h t (.d x) = some (.d x) := rfl
@[simp] theorem esc1_ep {x : List D} : esc1 st h t (.ep x) = some (.ep x) := rfl
@[simp] theorem esc1_un : esc1 st h t .un = none := rfl
@[simp] theorem esc1_ptr {i o : Nat} : esc1 st h t (.ptr i o) = if i < h then some (.ptr i o) else none := rfl
@[simp] theorem esc1_map {i : Nat} : esc1 st h t (.map i) = if i < h then some (.map i) else none := rfl
@[simp] theorem esc1_own {s n : Nat} {nz : Bool} {cs : List D} {k : Nat} : esc1 st h t (.own s n nz cs k) = if k < t then some (.own s n nz cs k) else some (.d (.sl n nz cs)) := rfl
@[simp] theorem esc1_rsl {s i o n c : Nat} : esc1 st h t (.rsl s i o n c) = if i < h then some (.rsl s i o n c) else (cellsAt st i o (n * s)).map fun ds => .d (.sl n true ds) := rfl
@[simp] theorem esc1_agg {cs : List V} : esc1 st h t (.agg cs) = (escs st h t cs).map .agg := rfl
@[simp] theorem esc1_tup' {vs : List V} : esc1 st h t (.tup vs) = none := rfl
@[simp] theorem esc_d {x : D} : esc st h t (.d x) = some (.d x) := rfl
@[simp] theorem esc_ep {x : List D} : esc st h t (.ep x) = some (.ep x) := rfl
@[simp] theorem esc_ptr {i o : Nat} : esc st h t (.ptr i o) = if i < h then some (.ptr i o) else none := rfl
@[simp] theorem esc_own {s n : Nat} {nz : Bool} {cs : List D} {k : Nat} : esc st h t (.own s n nz cs k) = if k < t then some (.own s n nz cs k) else some (.d (.sl n nz cs)) := rfl
@[simp] theorem esc_rsl {s i o n c : Nat} : esc st h t (.rsl s i o n c) = if i < h then some (.rsl s i o n c) else (cellsAt st i o (n * s)).map fun ds => .d (.sl n true ds) := rfl
@[simp] theorem esc_agg {cs : List V} : esc st h t (.agg cs) = (escs st h t cs).map .agg := rfl
@[simp] theorem esc_tup {vs : List V} : esc st h t (.tup vs) = (esc1s st h t vs).map .tup := rfl
end
@[simp] theorem escs_ofDs {st : St} {h t : Nat} : ∀ {ds : List D}, escs st h t (ofDs ds) = some (ofDs ds)
  | [] => rfl
  | d :: r => by
    have : escs st h t (ofDs r) = some (ofDs r) := escs_ofDs
    simp only [ofDs, List.map_cons] at this ⊢
    simp [this]
@[simp] theorem loadV_ptr {sz : Nat} {agg : Bool} {st : St} {id off : Nat} : loadV sz agg st (.ptr id off) = match st.row id with
    | some cs => if off + sz ≤ cs.length then mkV agg ((cs.drop off).take sz) else none
    | none => none := rfl
@[simp] theorem loadV_ep {sz : Nat} {agg : Bool} {st : St} {cs : List D} : loadV sz agg st (.ep cs) = if 0 < sz ∧ sz ≤ cs.length then mkV agg (ofDs (cs.take sz)) else none := rfl
@[simp] theorem storeV_ptr {sz : Nat} {st : St} {id off : Nat} {x : V} : storeV sz st (.ptr id off) x = match st.row id with
    | some cs => if x.ok1 = true ∧ x.cs.length = sz ∧ off + sz ≤ cs.length then st.setBlk id (.row (lay cs off x.cs)) else none
    | none => none := rfl
@[simp] theorem faddrV_ptr {off id o : Nat} : faddrV off (.ptr id o) = some (.ptr id (o + off)) := rfl
@[simp] theorem faddrV_ep {off : Nat} {cs : List D} : faddrV off (.ep cs) = some (.ep (cs.drop off)) := rfl
@[simp] theorem fieldV_agg {off sz : Nat} {agg : Bool} {cs : List V} : fieldV off sz agg (.agg cs) = if off + sz ≤ cs.length then mkV agg ((cs.drop off).take sz) else none := rfl
@[simp] theorem row_push_new {st : St} {cs : List V} {id : Nat} (h : id = st.heap.length) : (st.push (.row cs)).row id = some cs := by
  subst h
  rw [row_push, if_pos rfl]
@[simp] theorem row_push_old {st : St} {b : Blk} {id : Nat} (h : id < st.heap.length) : (st.push b).row id = st.row id := by
  rw [row_push, if_neg (by omega)]
@[simp] theorem setBlk_push {st : St} {b b' : Blk} {id : Nat} (h : id = st.heap.length) (hf : st.floor ≤ st.heap.length) : (st.push b).setBlk id b' = some (st.push b') := by
  subst h
  simp [St.setBlk, St.push, hf]
@[simp] theorem setBlk_push_old {st : St} {b b' : Blk} {id : Nat} (h : id < st.heap.length) : (st.push b).setBlk id b' = (st.setBlk id b').map (fun s => s.push b) := by
  unfold St.setBlk St.push
  split
  · simp [List.set_append_left _ _ h]
  · rfl
@[simp] theorem push_len {st : St} {b : Blk} : (st.push b).heap.length = st.heap.length + 1 := by simp [St.push]
@[simp] theorem push_tips {st : St} {b : Blk} : (st.push b).tips = st.tips := rfl
@[simp] theorem push_floor {st : St} {b : Blk} : (st.push b).floor = st.floor := rfl
@[simp] theorem push_tfloor {st : St} {b : Blk} : (st.push b).tfloor = st.tfloor := rfl
@[simp] theorem mask_nil {e : Env} : mask [] e = [] := rfl
@[simp] theorem mask_cons {i : Nat} {r : List Nat} {e : Env} : mask (i :: r) e = match e.get i with
    | some v => (i, v) :: mask r e
    | none => mask r e := by
  unfold mask
  rw [List.filterMap_cons]
  cases e.get i <;> rfl
@[simp] theorem escEnv_at {st : St} {h t : Nat} {e : Env} {i : Nat} : (escEnv st h t e).get i = match e.get i with
    | some u => esc1 st h t u
    | none => none := by
  induction e with
  | nil => rfl
  | cons p r ih =>
    obtain ⟨j, u⟩ := p
    simp only [escEnv, Env.get]
    cases hu : esc1 st h t u with
    | none =>
      simp only [del_get, ih]
      by_cases hj : j = i
      · subst hj
        simp [hu]
      · rw [if_neg hj, if_neg (fun e => hj e.symm)]
    | some x =>
      simp only [Env.get, ih]
      by_cases hj : j = i
      · subst hj
        simp [hu]
      · rw [if_neg hj, if_neg hj]
theorem enter_facts (st : St) : ∃ s, enterR st true = s ∧ s.heap = st.heap ∧ s.tips = st.tips ∧ s.floor = st.heap.length ∧ s.tfloor = st.tfloor := ⟨_, rfl, rfl, rfl, rfl, rfl⟩
@[simp] theorem enter_false (st : St) : enterR st false = st := rfl
theorem start_facts (fn : SFn) (h : fn.pure = true) (st : St) : ∃ s, start fn st = s ∧ s.heap = st.heap ∧ s.tips = st.tips ∧ s.floor = st.heap.length ∧ s.tfloor = st.tips.length := ⟨_, rfl, by simp [start, h]⟩
theorem start_raw (fn : SFn) (h : fn.pure = false) (st : St) : start fn st = st := by simp [start, h]
section
variable {P : Prog}
/-- A loop's run, by a measure; J speaks of the slots that live. -/
theorem loop_run {live : List Nat} {tr : Bool} {c : SCode} {Q : Out → Prop} (J : Nat → Env → St → Prop)
    (hJ : ∀ n e st, J n e st → ∃ r, (cden P c e (enterR st tr)).map (cutR st tr) = some r ∧ Round (fun m e' st' => J m (mask live e') st') n Q r) : ∀ {n : Nat} {e : Env} {st : St}, J n (mask live e) st → ∃ r, cden P (.loop live tr c) e st = some r ∧ Q r := by
  intro n
  induction n using Nat.strongRecOn with
  | ind n ih =>
    intro e st h
    obtain ⟨r, h1, h2⟩ := hJ n _ st h
    rw [cden_loop]
    have h1 : round live tr (cden P c) e st = some r := h1
    rw [h1]
    obtain ⟨x, e1, s1⟩ := r
    cases x with
    | normal =>
      obtain ⟨m, hm, hJm⟩ := h2
      exact ih m hm hJm
    | exit i => exact ⟨_, rfl, h2⟩
    | ret => exact ⟨_, rfl, h2⟩
end
theorem CodeW.of_ex {P : Prog} {c : SCode} {e : Env} {st : St} {Q : Out → Prop} (h : ∃ r, cden P c e st = some r ∧ Q r) : CodeW P c e st Q := by
  obtain ⟨r, h1, h2⟩ := h
  exact .of_cden h1 h2
theorem CallW.of_ex {P : Prog} {f : Nat} {args : List V} {st : St} {Q : V → St → Prop} (h : ∃ r s, den P f args st = some (r, s) ∧ Q r s) : CallW P f args st Q := by
  obtain ⟨r, s, h1, h2⟩ := h
  exact .of_den h1 h2
theorem wrap_i64 {n : Int} (h : -9223372036854775808 ≤ n) (h' : n ≤ 9223372036854775807) : IntKind.wrap .i64 n = n := by
  simp only [IntKind.wrap, IntKind.signed, IntKind.bits, Bool.true_and, decide_eq_true_eq, show (2 : Int) ^ (64 - 1) = 9223372036854775808 from rfl, show (2 : Int) ^ 64 = 18446744073709551616 from rfl]
  split <;> omega
theorem wrap_u8 {n : Int} (h : 0 ≤ n) (h' : n ≤ 255) : IntKind.wrap .u8 n = n := by
  simp only [IntKind.wrap, IntKind.signed, IntKind.bits, Bool.false_and, Bool.false_eq_true, if_false]
  omega
end Go.Sh
