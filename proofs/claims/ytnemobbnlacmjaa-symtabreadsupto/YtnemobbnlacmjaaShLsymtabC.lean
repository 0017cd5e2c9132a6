/- What symtab.Write comes to. -/
import Derived.Test.YtnemobbnlacmjaaShLsymtabB
import Derived.Test.YtnemobbnlacmjaaShBe
set_option linter.unusedVariables false
set_option linter.unusedSimpArgs false
namespace Go.Sh
/-- The sort of a symbol that may be. -/
def Sym.sortOk (x : Sym) : Option Srt := if 0 ≤ x.binding ∧ x.binding ≤ 1 ∧ 0 ≤ x.kind ∧ x.kind ≤ 2 then match sortOf (16 * x.binding + x.kind) with
    | none => none
    | some s => if 0 ≤ x.name ∧ x.name ≤ 4294967295 ∧ x.sec = s.sec ∧ s.value x.value = true ∧ s.size x.size = true then some s else none
  else none
def Sym.bytes (x : Sym) (s : Srt) : List D := le 4 x.name ++ (le 1 s.info ++ (le 1 0 ++ (le 2 x.sec ++ (le 8 x.value ++ le 8 x.size))))
theorem Sym.bytes_len (x : Sym) (s : Srt) : (x.bytes s).length = 24 := by simp [Sym.bytes, le_len]
def wr1 (o : Ordr) (x : Sym) : Except Int (Ordr × List D) := match x.sortOk with
  | none => .error 100
  | some s => if o.ok s x.value = true then .ok (o.step s x.value, x.bytes s) else .error 101
def wrRun : Ordr → List Sym → Except Int (Ordr × List D)
  | o, [] => .ok (o, [])
  | o, x :: r => match wr1 o x with
    | .error e => .error e
    | .ok (o', c) => match wrRun o' r with
      | .error e => .error e
      | .ok (o'', c') => .ok (o'', c ++ c')
theorem wrRun_append : ∀ (o : Ordr) (a b : List Sym), wrRun o (a ++ b) = match wrRun o a with
    | .error e => .error e
    | .ok (o', c) => match wrRun o' b with
      | .error e => .error e
      | .ok (o'', c') => .ok (o'', c ++ c')
  | o, [], b => by
    simp only [List.nil_append, wrRun]
    split <;> simp_all
  | o, x :: a, b => by
    simp only [List.cons_append, wrRun]
    cases wr1 o x with
    | error e => rfl
    | ok p =>
      obtain ⟨o1, c1⟩ := p
      simp only [wrRun_append o1 a b]
      cases wrRun o1 a with
      | error e => rfl
      | ok p =>
        obtain ⟨o2, c2⟩ := p
        simp only
        cases wrRun o2 b with
        | error e => rfl
        | ok p => simp [List.append_assoc]
theorem wrRun_one (o : Ordr) (x : Sym) : wrRun o [x] = wr1 o x := by
  simp only [wrRun]
  cases wr1 o x with
  | error e => rfl
  | ok p => simp
def o0 : Ordr := ⟨none, 0, 0⟩
theorem wrRun_tables : ∀ (l : List Sym) {o o' : Ordr} {c : List D}, wrRun o l = .ok (o', c) → o.tables ≤ o'.tables ∧ o'.tables ≤ o.tables + l.length ∧ c.length = 24 * l.length
  | [], o, o', c, h => by
    simp only [wrRun, Except.ok.injEq, Prod.mk.injEq] at h
    obtain ⟨rfl, rfl⟩ := h
    simp
  | x :: l, o, o', c, h => by
    simp only [wrRun] at h
    split at h
    · cases h
    · rename_i o1 c1 h1
      split at h
      · cases h
      · rename_i o2 c2 h2
        simp only [Except.ok.injEq, Prod.mk.injEq] at h
        obtain ⟨rfl, rfl⟩ := h
        have ih := wrRun_tables l h2
        unfold wr1 at h1
        split at h1
        · cases h1
        · split at h1
          · simp only [Except.ok.injEq, Prod.mk.injEq] at h1
            obtain ⟨rfl, rfl⟩ := h1
            simp only [List.length_append, Sym.bytes_len, List.length_cons, Ordr.step] at ih ⊢
            split at ih <;> omega
          · cases h1
theorem eqV_srt (s : Srt) : eqV [10] (.d s.d) (.d .ni) = some false := by cases s <;> rfl
def zeros24 : List D := List.replicate 24 (.i .u8 0)
theorem zeros24_len : zeros24.length = 24 := rfl
/-- What Write gives. -/
def wrOut (ss : List Sym) : List V := match wrRun o0 ss with
  | .ok (_, c) => [.d (.sl (24 * ss.length + 24) true (zeros24 ++ c)), .d (.i .i64 0)]
  | .error e => [.d (.sl 0 false []), .d (.i .i64 e)]
section
variable {pr : Prog} (hp : Sub symFns pr) {st : St}
include hp
theorem inv_sec (s : Srt) {e : Env} {st : St} : invK pr (den pr) e st [(0, 45), (1, 46), (2, 47)] [] (some (.d s.d)) = some (.d (.i .i64 s.sec), st) := by
  cases s <;> simp [Srt.d, ofDs, den45 hp, den46 hp, den47 hp]
theorem inv_value (s : Srt) (x : Int) {e : Env} {st : St} {k : Nat} (hk : e.get k = some (.d (.i .i64 x))) : invK pr (den pr) e st [(0, 48), (1, 49), (2, 50)] [.t k] (some (.d s.d)) = some (.d (.b (s.value x)), st) := by
  cases s <;> simp [hk, Srt.d, ofDs, den48 hp, den49 hp, den50 hp]
theorem inv_size (s : Srt) (x : Int) {e : Env} {st : St} {k : Nat} (hk : e.get k = some (.d (.i .i64 x))) : invK pr (den pr) e st [(0, 51), (1, 52), (2, 53)] [.t k] (some (.d s.d)) = some (.d (.b (s.size x)), st) := by
  cases s <;> simp [hk, Srt.d, ofDs, den51 hp, den52 hp, den53 hp]
theorem inv_info (s : Srt) {e : Env} {st : St} : invK pr (den pr) e st [(0, 56), (1, 57), (2, 58)] [] (some (.d s.d)) = some (.d (.i .i64 s.info), st) := by
  cases s <;> simp [Srt.d, ofDs, den56 hp, den57 hp, den58 hp]
theorem raw_Write {u : V} {ss : List Sym} (hu : SlD 6 u (ss.map Sym.cells)) (hl : ss.length ≤ 2932031007402) : RawD pr F31_symtab_Write [u] fun v s => (∃ o c, wrRun o0 ss = .ok (o, c) ∧ v = .tup [.own 1 (24 * ss.length + 24) true (zeros24 ++ c) 0, .d (.i .i64 0)] ∧ s.tips[0]? = some (24 * ss.length + 24)) ∨
    ∃ k, wrRun o0 ss = .error k ∧ v = .tup [.d (.sl 0 false []), .d (.i .i64 k)] := by
  refine .of ?_
  have hlen := hu.len
  rw [List.length_map] at hlen
  have w1 : IntKind.wrap .i64 ((ss.length : Int) + 1) = (ss.length : Int) + 1 := wrap_i64 (by omega) (by omega)
  have w2 : IntKind.wrap .i64 (24 * ((ss.length : Int) + 1)) = 24 * ((ss.length : Int) + 1) := wrap_i64 (by omega) (by omega)
  have r1 : room 1 (.d (.i .i64 (24 * ((ss.length : Int) + 1)))) = some (24 * ss.length + 24) := by
    simp [room]
    omega
  have r2 : room 1 (.d (.i .i64 24)) = some 24 := by simp [room]
  simp [F31_symtab_Write, hlen, w1, w2, r1, r2, fillV, ofDs, reps]
  generalize hL : cden pr (.loop _ _ _) _ _ = o
  obtain ⟨r, rfl, hQ⟩ : ∃ r, o = some r ∧ ((∃ o c e s, wrRun o0 ss = .ok (o, c) ∧ r = (.exit 0, e, s) ∧ e.get 4 = some (.own 1 (24 * ss.length + 24) true (zeros24 ++ c) 0) ∧ s.tips[0]? = some (24 * ss.length + 24)) ∨
      ∃ k e s, wrRun o0 ss = .error k ∧ r = (.ret, e, s) ∧ e.get 2 = some (.d (.sl 0 false [])) ∧ e.get 3 = some (.d (.i .i64 k))) := by
    rw [← hL]
    refine loop_j (fun n e st => ∃ i o c bs, i ≤ ss.length ∧ n = ss.length - i ∧ wrRun o0 (ss.take i) = .ok (o, c) ∧ st = s0 (.row (ofDs o.cells) :: bs) [24 * i + 24] 0 0 ∧
      e = [(4, .own 1 (24 * i + 24) true (zeros24 ++ c) 0), (5, .ptr 0 0), (16, u), (17, .d (.i .i64 ss.length)), (18, .d (.i .i64 i))]) ?_ (n := ss.length) ?_
    rotate_left
    · exact ⟨0, o0, [], [], by omega, by omega, rfl, by simp [o0, Ordr.cells, optS, ofDs], by simp [zeros24]⟩
    rintro n e st ⟨i, o, c, bs, hi, rfl, hwr, rfl, rfl⟩
    obtain ⟨t1, t2, t3⟩ := wrRun_tables _ hwr
    have t1 : 0 ≤ o.tables := t1
    rw [List.length_take, Nat.min_eq_left hi] at t2 t3
    have t2 : o.tables ≤ 0 + (i : Int) := t2
    rcases Nat.lt_or_ge i ss.length with h | h
    · obtain ⟨x, hx⟩ : ∃ x, ss[i]? = some x := ⟨_, List.getElem?_eq_getElem h⟩
      have htk : ss.take (i + 1) = ss.take i ++ [x] := by rw [List.take_add_one, hx]; rfl
      have hstep : wrRun o0 (ss.take (i + 1)) = match wr1 o x with
          | .error e => .error e
          | .ok (o'', c') => .ok (o'', c ++ c') := by rw [htk, wrRun_append, hwr]; simp only [wrRun_one]
      have herr : ∀ k, wr1 o x = .error k → wrRun o0 ss = .error k := by
        intro k hk
        rw [hk] at hstep
        rw [← List.take_append_drop (i + 1) ss, wrRun_append, hstep]
      have hia := hu.iaddr (i := (i : Int)) (k := .i64) (by omega) (by simp; omega)
      have hld := fun st => hu.load (st := st) (i := i) (o := 0) (n := 6) (agg := true) (el := x.cells) (by simp [hx]) (by omega) (by omega)
      have h1 : IntKind.wrap .i64 ((i : Int) + 1) = i + 1 := wrap_i64 (by omega) (by omega)
      have hpre : ∀ b : Bool, b = true ∨ b = false := by decide
      by_cases b1 : 0 ≤ x.binding
      rotate_left
      · have hk := herr 100 (by simp [wr1, Sym.sortOk, b1])
        simp [F31_symtab_Write_b0, h, hia, hld, Sym.cells, ofDs, fillV, lay, b1, eqV]
        exact hk
      by_cases b2 : x.binding ≤ 1
      rotate_left
      · have hk := herr 100 (by simp [wr1, Sym.sortOk, b2])
        simp [F31_symtab_Write_b0, h, hia, hld, Sym.cells, ofDs, fillV, lay, b1, b2, eqV]
        exact hk
      by_cases b3 : 0 ≤ x.kind
      rotate_left
      · have hk := herr 100 (by simp [wr1, Sym.sortOk, b3])
        simp [F31_symtab_Write_b0, h, hia, hld, Sym.cells, ofDs, fillV, lay, b1, b2, b3, eqV]
        exact hk
      by_cases b4 : x.kind ≤ 2
      rotate_left
      · have hk := herr 100 (by simp [wr1, Sym.sortOk, b4])
        simp [F31_symtab_Write_b0, h, hia, hld, Sym.cells, ofDs, fillV, lay, b1, b2, b3, b4, eqV]
        exact hk
      have k1 : IntKind.wrap .i64 (16 * x.binding) = 16 * x.binding := wrap_i64 (by omega) (by omega)
      have k2 : IntKind.wrap .i64 (16 * x.binding + x.kind) = 16 * x.binding + x.kind := wrap_i64 (by omega) (by omega)
      have hso := fun st => den_sortOf (pr := pr) hp (st := st) (16 * x.binding + x.kind)
      cases hs : sortOf (16 * x.binding + x.kind) with
      | none =>
        rw [hs] at hso
        have hk := herr 100 (by simp [wr1, Sym.sortOk, b1, b2, b3, b4, hs])
        simp [F31_symtab_Write_b0, h, hia, hld, Sym.cells, ofDs, fillV, lay, b1, b2, b3, b4, eqV, k1, k2, hso, optS]
        exact hk
      | some s =>
        rw [hs] at hso
        have m1 := @inv_sec pr hp s
        have m2 := @inv_value pr hp s
        have m3 := @inv_size pr hp s
        have m4 := @inv_info pr hp s
        have m5 := eqV_srt s
        have hsn : (¬ (0 ≤ x.name ∧ x.name ≤ 4294967295 ∧ x.sec = s.sec ∧ s.value x.value = true ∧ s.size x.size = true)) → wr1 o x = .error 100 := by
          intro hb
          have : x.sortOk = none := by
            unfold Sym.sortOk
            rw [if_pos ⟨b1, b2, b3, b4⟩, hs]
            simp only
            rw [if_neg hb]
          unfold wr1
          rw [this]
        by_cases c1 : x.name < 0
        · have hk := herr 100 (hsn fun hh => by omega)
          simp [F31_symtab_Write_b0, h, hia, hld, Sym.cells, ofDs, fillV, lay, b1, b2, b3, b4, m5, k1, k2, hso, optS, c1]
          exact hk
        by_cases c2 : 4294967295 < x.name
        · have hk := herr 100 (hsn fun hh => by omega)
          simp [F31_symtab_Write_b0, h, hia, hld, Sym.cells, ofDs, fillV, lay, b1, b2, b3, b4, m5, k1, k2, hso, optS, c1, c2]
          exact hk
        by_cases c3 : x.sec = s.sec
        rotate_left
        · have hk := herr 100 (hsn fun hh => c3 hh.2.2.1)
          simp [F31_symtab_Write_b0, h, hia, hld, Sym.cells, ofDs, fillV, lay, b1, b2, b3, b4, m5, k1, k2, hso, optS, c1, c2, m1, c3]
          exact hk
        cases c4 : s.value x.value
        · have hk := herr 100 (hsn fun hh => by rw [c4] at hh; cases hh.2.2.2.1)
          simp [F31_symtab_Write_b0, h, hia, hld, Sym.cells, ofDs, fillV, lay, b1, b2, b3, b4, m5, k1, k2, hso, optS, c1, c2, m1, m2, c3, c4]
          exact hk
        cases c5 : s.size x.size
        · have hk := herr 100 (hsn fun hh => by rw [c5] at hh; cases hh.2.2.2.2)
          simp [F31_symtab_Write_b0, h, hia, hld, Sym.cells, ofDs, fillV, lay, b1, b2, b3, b4, m5, k1, k2, hso, optS, c1, c2, m1, m2, m3, c3, c4, c5]
          exact hk
        have hsort : x.sortOk = some s := by
          simp [Sym.sortOk, b1, b2, b3, b4, hs, c3, c4, c5]
          omega
        have hnext : ∀ bs' : List Blk, den pr 54 [.ptr 0 0, .d s.d, .d (.i .i64 x.value)] (s0 (.row (ofDs o.cells) :: bs') [24 * i + 24] 0 0) = some (.d (.b (o.ok s x.value)), s0 (.row (ofDs (o.step s x.value).cells) :: bs') [24 * i + 24] 0 0) := by
          intro bs'
          have := den_next (pr := pr) hp (bs := .row (ofDs o.cells) :: bs') (ts := [24 * i + 24]) (fl := 0) (tf := 0) (k := 0) o s x.value rfl (by omega) t1 (by omega)
          simpa using this
        simp only [ofDs] at hnext
        cases c6 : o.ok s x.value
        · have hk := herr 101 (by simp [wr1, hsort, c6])
          simp [F31_symtab_Write_b0, h, hia, hld, Sym.cells, ofDs, fillV, lay, b1, b2, b3, b4, m5, k1, k2, hso, optS, c1, c2, m1, m2, m3, c3, c4, c5, hnext, c6]
          exact hk
        have hw1 : wr1 o x = .ok (o.step s x.value, x.bytes s) := by simp [wr1, hsort, c6]
        rw [hw1] at hstep
        simp only at hstep
        obtain ⟨N, hN⟩ : ∃ N, N = 24 * i + 24 := ⟨_, rfl⟩
        obtain ⟨C, hC⟩ : ∃ C, C = zeros24 ++ c := ⟨_, rfl⟩
        have hCl : C.length = N := by rw [hC, hN, List.length_append, zeros24_len, t3]; omega
        rw [← hN] at hnext
        obtain ⟨A1, hA1⟩ : ∃ A, A = C ++ le 4 (x.name) := ⟨_, rfl⟩
        have l1 : A1.length = N + 4 := by rw [hA1, List.length_append, hCl, le_len]
        have p1 : ∀ bs, den pr 55 [.own 1 N true C 0, .d (.i .i64 (x.name)), .d (.i .i64 4)] (s0 bs [N] 0 0) = some (.own 1 (N + 4) true A1 0, s0 bs [N + 4] 0 0) := fun bs => by
          rw [hA1]
          exact den_put (pr := pr) hp (bs := bs) (ts := [N]) (fl := 0) (tf := 0) (t := 0) (x.name) (w := 4) rfl (by omega) hCl (by omega) (by omega)
        obtain ⟨A2, hA2⟩ : ∃ A, A = A1 ++ le 1 (s.info) := ⟨_, rfl⟩
        have l2 : A2.length = N + 5 := by rw [hA2, List.length_append, l1, le_len]
        have p2 : ∀ bs, den pr 55 [.own 1 (N + 4) true A1 0, .d (.i .i64 (s.info)), .d (.i .i64 1)] (s0 bs [(N + 4)] 0 0) = some (.own 1 (N + 5) true A2 0, s0 bs [N + 5] 0 0) := fun bs => by
          rw [hA2]
          exact den_put (pr := pr) hp (bs := bs) (ts := [(N + 4)]) (fl := 0) (tf := 0) (t := 0) (s.info) (w := 1) rfl (by omega) l1 (by omega) (by omega)
        obtain ⟨A3, hA3⟩ : ∃ A, A = A2 ++ le 1 (0) := ⟨_, rfl⟩
        have l3 : A3.length = N + 6 := by rw [hA3, List.length_append, l2, le_len]
        have p3 : ∀ bs, den pr 55 [.own 1 (N + 5) true A2 0, .d (.i .i64 (0)), .d (.i .i64 1)] (s0 bs [(N + 5)] 0 0) = some (.own 1 (N + 6) true A3 0, s0 bs [N + 6] 0 0) := fun bs => by
          rw [hA3]
          exact den_put (pr := pr) hp (bs := bs) (ts := [(N + 5)]) (fl := 0) (tf := 0) (t := 0) (0) (w := 1) rfl (by omega) l2 (by omega) (by omega)
        obtain ⟨A4, hA4⟩ : ∃ A, A = A3 ++ le 2 (x.sec) := ⟨_, rfl⟩
        have l4 : A4.length = N + 8 := by rw [hA4, List.length_append, l3, le_len]
        have p4 : ∀ bs, den pr 55 [.own 1 (N + 6) true A3 0, .d (.i .i64 (x.sec)), .d (.i .i64 2)] (s0 bs [(N + 6)] 0 0) = some (.own 1 (N + 8) true A4 0, s0 bs [N + 8] 0 0) := fun bs => by
          rw [hA4]
          exact den_put (pr := pr) hp (bs := bs) (ts := [(N + 6)]) (fl := 0) (tf := 0) (t := 0) (x.sec) (w := 2) rfl (by omega) l3 (by omega) (by omega)
        obtain ⟨A5, hA5⟩ : ∃ A, A = A4 ++ le 8 (x.value) := ⟨_, rfl⟩
        have l5 : A5.length = N + 16 := by rw [hA5, List.length_append, l4, le_len]
        have p5 : ∀ bs, den pr 55 [.own 1 (N + 8) true A4 0, .d (.i .i64 (x.value)), .d (.i .i64 8)] (s0 bs [(N + 8)] 0 0) = some (.own 1 (N + 16) true A5 0, s0 bs [N + 16] 0 0) := fun bs => by
          rw [hA5]
          exact den_put (pr := pr) hp (bs := bs) (ts := [(N + 8)]) (fl := 0) (tf := 0) (t := 0) (x.value) (w := 8) rfl (by omega) l4 (by omega) (by omega)
        obtain ⟨A6, hA6⟩ : ∃ A, A = A5 ++ le 8 (x.size) := ⟨_, rfl⟩
        have l6 : A6.length = N + 24 := by rw [hA6, List.length_append, l5, le_len]
        have p6 : ∀ bs, den pr 55 [.own 1 (N + 16) true A5 0, .d (.i .i64 (x.size)), .d (.i .i64 8)] (s0 bs [(N + 16)] 0 0) = some (.own 1 (N + 24) true A6 0, s0 bs [N + 24] 0 0) := fun bs => by
          rw [hA6]
          exact den_put (pr := pr) hp (bs := bs) (ts := [(N + 16)]) (fl := 0) (tf := 0) (t := 0) (x.size) (w := 8) rfl (by omega) l5 (by omega) (by omega)
        rw [c3] at p4
        have hall : A6 = C ++ x.bytes s := by rw [hA6, hA5, hA4, hA3, hA2, hA1]; simp [Sym.bytes]
        rw [← hC, ← hN]
        simp [F31_symtab_Write_b0, h, hia, hld, Sym.cells, ofDs, fillV, lay, b1, b2, b3, b4, m5, k1, k2, hso, optS, c1, c2, m1, m2, m3, m4, c3, c4, c5, hnext, c6, p1, p2, p3, p4, p5, p6, h1]
        have hN2 : 24 * (i + 1) + 24 = N + 24 := by omega
        refine ⟨ss.length - (i + 1), by omega, i + 1, by omega, rfl, _, _, hstep, ?_, ?_⟩
        · rw [hN2]
          exact ⟨_, rfl⟩
        · exact ⟨⟨by omega, by rw [hall, hC, List.append_assoc]⟩, by omega⟩
    · obtain rfl : i = ss.length := by omega
      rw [List.take_length] at hwr
      simp [F31_symtab_Write_b0]
      exact ⟨o, c, hwr, _, _, ⟨rfl, rfl⟩, by simp, by simp⟩
  rcases hQ with ⟨o, c, e, s, hw, rfl, h4, h5⟩ | ⟨k, e, s, hw, rfl, h2, h3⟩
  · simp [h4, hw, h5]
  · simp [h2, h3, hw]
theorem den_Write {v : V} {ss : List Sym} (hv : SlC 6 v (ss.map Sym.cells)) (hl : ss.length ≤ 2932031007402) : den pr 31 [v] st = some (.tup (wrOut ss), st) := by
  obtain ⟨u, hc, hu⟩ := hv.close
  refine (raw_Write hp hu hl).den (hp.at 20 rfl) rfl rfl (by simp [hc]) ?_
  rintro v s (⟨o, c, hw, rfl, _⟩ | ⟨k, hw, rfl⟩)
  · simp [wrOut, hw]
  · simp [wrOut, hw]
end
end Go.Sh
