/- The checker of one operation, and what it is good for. -/
import Derived.Test.YtgafhgbnjohbeabDoorSh13
set_option linter.unusedVariables false
set_option linter.unusedSimpArgs false
namespace Go.Sh
open Go.RowKit

def okOo (L : Link) : Option Operand → Option Opd → Bool
  | none, none => true
  | some x, some y => okO L x y
  | _, _ => false
def okOs (L : Link) : List Operand → List Opd → Bool
  | [], [] => true
  | x :: xs, y :: ys => okO L x y && okOs L xs ys
  | _, _ => false
def okCall (P : Program) (f : FuncId) : Bool := match P.funcs[f]? with
  | some fn => fn.name != "runtime.NumGoroutine" && fn.body.isSome
  | none => false
def okMeth (P : Program) (t : TypeId) (name : String) (f : FuncId) : Bool := match P.info? t with
  | some i => match i.methods.find? (·.name == name) with
    | some m => m.path.isEmpty && decide (m.func = some (f, false)) && (match P.underlying t with | some (.pointer _) => false | some _ => true | none => false)
    | none => false
  | none => false
def okTable (P : Program) (L : Link) (name : String) : List (Nat × Nat) → Bool
  | [] => true
  | (tag, f) :: r => okMeth P (L.ty tag) name (L.fn f) && okCall P (L.fn f) && okTable P L name r
def elemOk (P : Program) (t : TypeId) (p : TypeId → Bool) : Bool := match P.underlying t with
  | some (.slice e) => p e
  | _ => false
def appSrc (P : Program) (t : TypeId) : Bool := match P.underlying t with
  | some (.slice _) => true
  | some .string => true
  | _ => false
def okOp (P : Program) (L : Link) (o : Op) : SOp → Bool
  | .mov x => match o with
    | .move y => okO L y x
    | .assign y => okO L y x
    | _ => false
  | .tok _ x => match o with
    | .move y => okO L y x
    | .assign y => okO L y x
    | _ => false
  | .pick c a b => match o with
    | .pick c' a' b' => okO L c' c && okO L a' a && okO L b' b
    | _ => false
  | .bin op x y => match o with
    | .binOp op' _ a b _ => decide (op' = op) && okO L a x && okO L b y
    | _ => false
  | .eqv neg ks x y => match o with
    | .binOp op t a b _ => decide (op = if neg then .neq else .eql) && okEqTy P t a b ks && okO L a x && okO L b y
    | _ => false
  | .un op x => match o with
    | .unOp op' _ a => decide (op' = op) && okO L a x
    | _ => false
  | .conv k x => match o with
    | .convert src dst a => (P.underlying src).isSome && intIs P dst k && okO L a x
    | _ => false
  | .s2b x => match o with
    | .convert src dst a => strIs P src && elemOk P dst (intIs P · .u8) && okO L a x
    | _ => false
  | .b2s x => match o with
    | .convert src dst a => strIs P dst && elemOk P src (intIs P · .u8) && okO L a x
    | _ => false
  | .build z ps => match o with
    | .build t parts => zeroIs P t z && (match bPlace P t with | some place => okParts L place parts.toList ps | none => false)
    | _ => false
  | .lits n z ps => match o with
    | .buildSlice t len parts => decide (len = n) && elemOk P t (zeroIs P · z) && decide (n * z.length ≤ 16777216) && okParts L (fun i => some (i * z.length, z.length)) parts.toList ps
    | _ => false
  | .litsO n z ps => match o with
    | .buildSlice t len parts => decide (len = n) && elemOk P t (zeroIs P · z) && decide (n * z.length ≤ 16777216) && decide (n ≤ 16777216) && okParts L (fun i => some (i * z.length, z.length)) parts.toList ps
    | _ => false
  | .litsR n z ps => match o with
    | .buildSlice t len parts => decide (len = n) && elemOk P t (zeroIs P · z) && decide (n * z.length ≤ 16777216) && okParts L (fun i => some (i * z.length, z.length)) parts.toList ps
    | _ => false
  | .box x => match o with
    | .box _ a => okO L a x
    | _ => false
  | .boxI x => match o with
    | .box _ a => okO L a x
    | _ => false
  | .alloc z => match o with
    | .alloc e => zeroIs P e z
    | _ => false
  | .load size agg p => match o with
    | .load t a => szIs P t size && aggIs P t agg && okO L a p
    | _ => false
  | .store size p x => match o with
    | .store t a b => szIs P t size && okO L a p && okO L b x
    | _ => false
  | .faddr off p => match o with
    | .fieldAddr s a f => (match fieldIs P s f off with | some fd => (match P.info? fd.type with | some i => i.size != 0 | none => false) | none => false) && okO L a p
    | _ => false
  | .field off size agg x => match o with
    | .field s a f => (match fieldIs P s f off with | some fd => szIs P fd.type size && aggIs P fd.type agg | none => false) && okO L a x
    | _ => false
  | .iaddr size x i => match o with
    | .indexAddr t a b => slIs P t size && okO L a x && okO L b i
    | _ => false
  | .iaddrA len size p i => match o with
    | .indexAddr t a b => arrIs P t len size && okO L a p && okO L b i
    | _ => false
  | .idx len size agg x i => match o with
    | .index t a b => (match P.underlying t with | some (.array n e) => n == len && szIs P e size && aggIs P e agg | _ => false) && okO L a x && okO L b i
    | _ => false
  | .idxS x i => match o with
    | .index t a b => strIs P t && okO L a x && okO L b i
    | _ => false
  | .slc size x lo hi mx => match o with
    | .slice t a l h m => slIs P t size && okO L a x && okOo L l lo && okOo L h hi && okOo L m mx && (!mx.isSome || hi.isSome)
    | _ => false
  | .slcS x lo hi => match o with
    | .slice t a l h m => strIs P t && okO L a x && okOo L l lo && okOo L h hi && !m.isSome
    | _ => false
  | .slcA len size x lo hi mx => match o with
    | .slice t a l h m => (arrIs P t len size || (match P.underlying t with | some (.pointer a) => arrIs P a len size | _ => false)) && okO L a x && okOo L l lo && okOo L h hi && okOo L m mx && (!mx.isSome || hi.isSome)
    | _ => false
  | .mkR bytes z l c => match o with
    | .makeSlice t a b => elemOk P t (fun e => zeroIs P e z && bytesIs P e bytes) && okO L a l && okO L b c
    | _ => false
  | .mkD bytes z l c => match o with
    | .makeSlice t a b => elemOk P t (fun e => zeroIs P e z && bytesIs P e bytes) && okO L a l && okO L b c
    | _ => false
  | .mkO bytes _ z l c => match o with
    | .makeSlice t a b => elemOk P t (fun e => zeroIs P e z && bytesIs P e bytes) && okO L a l && okO L b c
    | _ => false
  | .len str x => match o with
    | .call { callee := .builtin .len, args := ⟨[a]⟩, argTypes := ⟨[t]⟩ } => (if str then strIs P t else elemOk P t (fun _ => true)) && okO L a x
    | _ => false
  | .lenA n => match o with
    | .call { callee := .builtin .len, args := ⟨[a]⟩, argTypes := ⟨[t]⟩ } => match P.underlying t with
      | some (.array m _) => m == n
      | some (.pointer u) => (match P.underlying u with | some (.array m _) => m == n | _ => false)
      | _ => false
    | _ => false
  | .app size bytes s x => match o with
    | .call { callee := .builtin .append, args := ⟨[a, b]⟩, argTypes := ⟨[t, u]⟩ } => elemOk P t (fun e => zeroHas P e && szIs P e size && bytesIs P e bytes) && appSrc P u && okO L a s && okO L b x
    | _ => false
  | .appR size bytes z s x => match o with
    | .call { callee := .builtin .append, args := ⟨[a, b]⟩, argTypes := ⟨[t, u]⟩ } => elemOk P t (fun e => zeroIs P e z && szIs P e size && bytesIs P e bytes) && appSrc P u && okO L a s && okO L b x
    | _ => false
  | .cpy size s x => match o with
    | .call { callee := .builtin .copy, args := ⟨[a, b]⟩, argTypes := ⟨[t, u]⟩ } => elemOk P t (szIs P · size) && okO L a s && okO L b x
    | _ => false
  | .mkI tag agg x => match o with
    | .makeInterface t a => decide (L.ty tag = t) && concIs P t agg && okO L a x
    | _ => false
  | .assertT tag others ok z za x => match o with
    | .typeAssert a _ t ok' => decide (L.ty tag = t) && (others.all fun a => decide (L.ty a ≠ t)) && (ok' == ok) && zeroOk P t z za && (match P.underlying t with | some (.interface _) => false | some _ => true | none => false) && okO L a x
    | _ => false
  | .extract i x => match o with
    | .extract a j => j == i && okO L a x
    | _ => false
  | .nilChk x => match o with
    | .nilCheck a => okO L a x
    | _ => false
  | .call f args => match o with
    | .call { callee := .value (.func g), args := as, argTypes := _ } => g == L.fn f && okCall P g && okOs L as.toList args
    | _ => false
  | .invoke table r args => match o with
    | .call { callee := .invoke a name, args := as, argTypes := _ } => okO L a r && okTable P L name table && okOs L as.toList args
    | _ => false
  | .mx x y => match o with
    | .call { callee := .builtin .max, args := ⟨[a, b]⟩, argTypes := _ } => okO L a x && okO L b y
    | _ => false
  | .mn x y => match o with
    | .call { callee := .builtin .min, args := ⟨[a, b]⟩, argTypes := _ } => okO L a x && okO L b y
    | _ => false
  | .mkMap => false
  | .lenM _ => false
  | .look .. => false
  | .mapSet .. => false

def CallOk (P : Program) (Pr : Prog) (L : Link) (call : CallF) : Prop := ∀ (κ : K) (st : St) (f : Nat) (args : List V) (vals : List Value) (r : V) (st' : St), κ.L = L → Inv Pr κ st → All2 (Rep κ) args vals → call f args st = some (r, st') →
  Calls P (L.fn f) vals.toArray κ.w fun e w' => ∃ κ' v, κ'.w = w' ∧ e = .returned v ∧ κ.le κ' ∧ Inv Pr κ' st' ∧ Rep κ' r v
section
variable {P : Program} {Pr : Prog} {κ : K} {st st' : St} {o : Oper} {a : Act} {next : Act → World → Prop} {Q : Exit → Act → World → Prop} {x : V}

/-- What follows an operation. -/
def Then (Pr : Prog) (κ : K) (st' : St) (x : V) (o : Oper) (a : Act) (next : Act → World → Prop) : Prop := ∀ κ' v, κ.le κ' → Inv Pr κ' st' → Rep κ' x v → next (a.put o.dst v) κ'.w
theorem wp_mem {s : Sem Value} (he : execOp a.eval o = (do pure (.value (← s)))) (hm : Mem P Pr κ st' x s) (hn : Then Pr κ st' x o a next) : o.wp P a κ.w next Q := by
  obtain ⟨κ', v, h1, h2, h3, h4⟩ := hm
  unfold Oper.wp
  rw [he]
  simp only [Sem.run_bind, h1, Result.andThen_ok, Sem.run_pure, Oper.upon]
  exact hn κ' v h2 h3 h4
theorem wp_mem' {s : Sem Value} (he : (execOp a.eval o).run P κ.w = (s.run P κ.w).andThen fun v w => .ok (.value v) w) (hm : Mem P Pr κ st' x s) (hn : Then Pr κ st' x o a next) : o.wp P a κ.w next Q := by
  obtain ⟨κ', v, h1, h2, h3, h4⟩ := hm
  unfold Oper.wp
  rw [he, h1]
  simp only [Result.andThen_ok, Oper.upon]
  exact hn κ' v h2 h3 h4
theorem wp_skip' {s : Sem Unit} (he : execOp a.eval o = (do s; pure .skip)) (hm : ∃ κ', s.run P κ.w = .ok () κ'.w ∧ κ.le κ' ∧ Inv Pr κ' st') (hn : Then Pr κ st' .un o a next) : o.wp P a κ.w next Q := by
  obtain ⟨κ', h1, h2, h3⟩ := hm
  unfold Oper.wp
  rw [he]
  simp only [Sem.run_bind, h1, Result.andThen_ok, Sem.run_pure, Oper.upon]
  exact hn κ' undef h2 h3 rfl
theorem opds_sound (hi : Inv Pr κ st) {e : Env} (hE : ERel κ e a) : ∀ {as : List Operand} {args : List Opd} {vs : List V}, okOs κ.L as args = true → evs Pr e args = some vs → All2 (Rep κ) vs (as.map a.eval)
  | [], [], vs, _, h => by
    simp only [evs, Option.some.injEq] at h
    subst h
    exact .nil
  | x :: as, y :: args, vs, hok, h => by
    simp only [okOs, Bool.and_eq_true] at hok
    simp only [evs] at h
    split at h
    · rename_i v hv
      split at h
      · rename_i vs' hvs
        simp only [Option.some.injEq] at h
        subst h
        exact .cons (opd_sound hi hE hok.1 hv) (opds_sound hi hE hok.2 hvs)
      · cases h
    · cases h
  | [], _ :: _, vs, hok, _ => by simp [okOs] at hok
  | _ :: _, [], vs, hok, _ => by simp [okOs] at hok
theorem opo_sound (hi : Inv Pr κ st) {e : Env} (hE : ERel κ e a) {x : Option Operand} {y : Option Opd} (hok : okOo κ.L x y = true) {v : Option V} (h : evo Pr e y = some v) : ORep κ v (x.map a.eval) := by
  cases x <;> cases y <;> simp only [okOo] at hok <;> try (cases hok; done)
  · simp only [evo, Option.some.injEq] at h
    subst h
    trivial
  · simp only [evo, Option.map_eq_some_iff] at h
    obtain ⟨u, hu, rfl⟩ := h
    exact opd_sound hi hE hok hu
theorem evo_some {Pr : Prog} {e : Env} {y : Option Opd} {v : Option V} (h : evo Pr e y = some v) : v.isSome = y.isSome := by
  cases y with
  | none => simp only [evo, Option.some.injEq] at h; subst h; rfl
  | some y =>
    simp only [evo, Option.map_eq_some_iff] at h
    obtain ⟨u, hu, rfl⟩ := h
    rfl
theorem elemOk_spec {t : TypeId} {p : TypeId → Bool} (h : elemOk P t p = true) : ∃ e, P.underlying t = some (.slice e) ∧ p e = true := by
  unfold elemOk at h
  split at h
  · exact ⟨_, by assumption, h⟩
  · cases h
theorem okCall_run {f : FuncId} (h : okCall P f = true) (args : Array Value) (w : World) : (callFunc f args).run P w = .ok (.enter f args) w := by
  unfold okCall at h
  split at h
  · rename_i fn hfn
    simp only [Bool.and_eq_true, bne_iff_ne, ne_eq] at h
    obtain ⟨b, hb⟩ := Option.isSome_iff_exists.1 h.2
    simp [callFunc, hfn, h.1, hb]
  · cases h
theorem wp_call {f : Nat} {args : List V} {vals : List Value} {call : CallF} (hc : CallOk P Pr κ.L call) (hi : Inv Pr κ st) (ha : All2 (Rep κ) args vals) (h : call f args st = some (x, st'))
    (he : (execOp a.eval o).run P κ.w = .ok (.enter (κ.L.fn f) vals.toArray) κ.w) (hn : Then Pr κ st' x o a next) : o.wp P a κ.w next Q := by
  unfold Oper.wp
  rw [he, Oper.upon_enter]
  refine (hc κ st f args vals x st' rfl hi ha h).mono ?_
  rintro e w' ⟨κ', v, rfl, rfl, h1, h2, h3⟩
  exact hn κ' v h1 h2 h3
theorem okTable_spec {L : Link} {name : String} : ∀ {table : List (Nat × Nat)} {tag f : Nat}, okTable P L name table = true → table.lookup tag = some f → okMeth P (L.ty tag) name (L.fn f) = true ∧ okCall P (L.fn f) = true
  | [], tag, f, _, h => by simp at h
  | (t, g) :: r, tag, f, hok, h => by
    simp only [okTable, Bool.and_eq_true] at hok
    simp only [List.lookup_cons] at h
    split at h
    · rename_i he
      simp only [Option.some.injEq] at h
      subst h
      have : tag = t := by simpa using he
      subst this
      exact hok.1
    · exact okTable_spec hok.2 h
theorem run_method_plain {t : TypeId} {name : String} {f : FuncId} (h : okMeth P t name f = true) (v : Value) (w : World) (n : Nat) : (method (n + 1) t v name).run P w = .ok (f, v) w := by
  unfold okMeth at h
  split at h
  · rename_i i hi
    split at h
    · rename_i m hm
      simp only [Bool.and_eq_true, decide_eq_true_eq] at h
      obtain ⟨⟨h1, h2⟩, h3⟩ := h
      have hp : m.path.toList = [] := by
        have := Array.isEmpty_iff.1 h1
        rw [this]
      cases hu : P.underlying t with
      | none => rw [hu] at h3; cases h3
      | some d =>
        rw [hu] at h3
        simp only [method, typeInfo, Sem.run_bind, run_program, Result.andThen_ok, hi, Sem.run_pure, hm, hp, follow, h2, receiverAt, run_underlying hu]
        cases d <;> first
          | (simp at h3; done)
          | simp [Place.get]
    · cases h
  · cases h
end
end Go.Sh
