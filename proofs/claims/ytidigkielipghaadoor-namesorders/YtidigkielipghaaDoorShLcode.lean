/- What the functions of the package code come to: writing. -/
import Derived.Test.YtidigkielipghaaDoorShLisaRange
import Derived.Test.YtidigkielipghaaDoorShLins
import Derived.Test.YtidigkielipghaaDoorShFcode
set_option linter.unusedVariables false
set_option linter.unusedSimpArgs false
namespace Go.Sh
def codeFns : List (Nat × SFn) := [(0, F0_code_Slots), (70, F70_code_Encode), (72, F72_code_Decode), (76, F76_code_laid), (77, F77_code_first), (78, F78_code_put), (79, F79_code_take)]
def u8 (x : Int) : List V := [.d (.i .u8 (IntKind.wrap .u8 x))]
section
variable {pr : Prog} (hp : Sub codeFns pr)
include hp
theorem den_put1 {bs : List Blk} {ts : List Nat} {fl tf k o n cap : Nat} {cs : List V} (x : Int) (hk : bs[k]? = some (.row cs)) (hf : fl ≤ k) (ho : o + 1 ≤ cs.length) (hn : 1 ≤ n) :
    den pr 78 [.rsl 1 k o n cap, .d (.i .u64 x), .d (.i .i64 1)] (s0 bs ts fl tf) = some (.tup [], s0 (bs.set k (.row (lay cs o (u8 x)))) ts fl tf) := by
  obtain ⟨hlt, hkk⟩ := List.getElem?_eq_some_iff.1 hk
  rw [den_fn (hp.at 5 rfl) rfl rfl, start_raw _ rfl]
  have h0 : 0 < n := by omega
  simp [F78_code_put, iaddrV, hkk, hf, ho, h0, u8, hlt]
theorem den_put2 {bs : List Blk} {ts : List Nat} {fl tf k o n cap : Nat} {cs : List V} (x : Int) (hk : bs[k]? = some (.row cs)) (hf : fl ≤ k) (ho : o + 2 ≤ cs.length) (hn : 2 ≤ n) :
    den pr 78 [.rsl 1 k o n cap, .d (.i .u64 x), .d (.i .i64 2)] (s0 bs ts fl tf) = some (.tup [], s0 (bs.set k (.row (lay (lay cs (o + 1) (u8 (x.fdiv 256))) o (u8 x)))) ts fl tf) := by
  obtain ⟨hlt, hkk⟩ := List.getElem?_eq_some_iff.1 hk
  rw [den_fn (hp.at 5 rfl) rfl rfl, start_raw _ rfl]
  have h0 : 0 < n := by omega
  have h1 : (1 : Int) < n := by omega
  have hb : o + 1 + 1 ≤ cs.length := by omega
  have hl : ∀ v : V, (lay cs (o + 1) [v]).length = cs.length := fun v => lay_len (by simpa using hb)
  have hb0 : o + 1 ≤ cs.length := by omega
  simp [F78_code_put, iaddrV, hkk, hf, ho, h0, h1, u8, hlt, shI_shr, IntKind.bits, hb, hl, hb0, List.set_set]
theorem den_put4 {bs : List Blk} {ts : List Nat} {fl tf k o n cap : Nat} {cs : List V} (x : Int) (hk : bs[k]? = some (.row cs)) (hf : fl ≤ k) (ho : o + 4 ≤ cs.length) (hn : 4 ≤ n) :
    den pr 78 [.rsl 1 k o n cap, .d (.i .u64 x), .d (.i .i64 4)] (s0 bs ts fl tf) = some (.tup [], s0 (bs.set k (.row (lay (lay (lay (lay cs (o + 3) (u8 (x.fdiv 16777216))) (o + 2) (u8 (x.fdiv 65536))) (o + 1) (u8 (x.fdiv 256))) o (u8 x)))) ts fl tf) := by
  obtain ⟨hlt, hkk⟩ := List.getElem?_eq_some_iff.1 hk
  rw [den_fn (hp.at 5 rfl) rfl rfl, start_raw _ rfl]
  have h0 : 0 < n := by omega
  have h1 : (1 : Int) < n := by omega
  have h2 : (2 : Int) < n := by omega
  have h3 : (3 : Int) < n := by omega
  have hb3 : o + 3 + 1 ≤ cs.length := by omega
  have hb2 : o + 2 + 1 ≤ cs.length := by omega
  have hb1 : o + 1 + 1 ≤ cs.length := by omega
  have hb0 : o + 1 ≤ cs.length := by omega
  have l3 : ∀ v : V, (lay cs (o + 3) [v]).length = cs.length := fun v => lay_len (by simpa using hb3)
  have l2 : ∀ v w : V, (lay (lay cs (o + 3) [v]) (o + 2) [w]).length = cs.length := fun v w => by rw [lay_len (by rw [l3]; simpa using hb2), l3]
  have l1 : ∀ v w z : V, (lay (lay (lay cs (o + 3) [v]) (o + 2) [w]) (o + 1) [z]).length = cs.length := fun v w z => by rw [lay_len (by rw [l2]; simpa using hb1), l2]
  simp [F78_code_put, iaddrV, hkk, hf, ho, h0, h1, h2, h3, u8, hlt, shI_shr, IntKind.bits, hb0, hb1, hb2, hb3, l1, l2, l3, List.set_set]
end
/-- The i-th byte of a number. -/
def byU (x : Int) (i : Nat) : UInt8 := UInt8.ofNat ((x / 256 ^ i) % 256).toNat
theorem byU_nat (x : Int) (i : Nat) : ((byU x i).toNat : Int) = (x / 256 ^ i) % 256 := by
  unfold byU
  rw [UInt8.toNat_ofNat']
  omega
/-- An instruction's bytes. -/
def Ins.enc (x : Ins) : List UInt8 := [byU x.op 0, byU (x.dst + 16 * x.src) 0, byU x.off 0, byU x.off 1, byU x.imm 0, byU x.imm 1, byU x.imm 2, byU x.imm 3] ++ if x.op = 24 then [0, 0, 0, 0, byU x.imm 4, byU x.imm 5, byU x.imm 6, byU x.imm 7] else []
theorem or_regs {a b : Int} (ha : 0 ≤ a) (ha' : a ≤ 15) (hb : 0 ≤ b) (hb' : b ≤ 15) : bitI .or .i64 a (b * 16) = some (.i .i64 (a + 16 * b)) := by
  obtain ⟨n, rfl⟩ : ∃ n : Nat, a = n := ⟨a.toNat, by omega⟩
  obtain ⟨d, rfl⟩ : ∃ d : Nat, b = d := ⟨b.toNat, by omega⟩
  have := or_disj (n := n) (d := d) (i := 4) (by omega) (by omega)
  rw [wrap_i64 (by omega) (by omega), wrap_i64 (by simp; omega) (by simp; omega), wrap_i64 (by simp; omega) (by simp; omega)] at this
  simp only [Nat.reducePow, Int.reducePow] at this
  rw [this]
  congr 2
  simp
  omega
theorem wrap_u64 (x : Int) : IntKind.wrap .u64 x = x % 18446744073709551616 := by
  simp [IntKind.wrap, IntKind.signed, IntKind.bits]
theorem wrap_u8m (x : Int) : IntKind.wrap .u8 x = x % 256 := by
  simp [IntKind.wrap, IntKind.signed, IntKind.bits]
theorem fdiv_pos' (x m : Int) (h : 0 < m) : x.fdiv m = x / m := Int.fdiv_eq_ediv_of_nonneg _ (by omega)
section
variable {pr : Prog} (hp : Sub codeFns pr) {st : St}
include hp
theorem den_laid (x : Ins) (h0 : 0 ≤ x.op) (h1 : x.op ≤ 255) (h2 : 0 ≤ x.dst) (h3 : x.dst ≤ 15) (h4 : 0 ≤ x.src) (h5 : x.src ≤ 15) : den pr 76 [.agg (ofDs x.cells)] st = some (bsl true x.enc, st) := by
  refine den_shut (hp.at 3 rfl) rfl rfl (by simp; rfl) ?_
  have hor := or_regs h2 h3 h4 h5
  have p1 := fun bs ts fl tf k o n cap cs x => den_put1 (pr := pr) hp (bs := bs) (ts := ts) (fl := fl) (tf := tf) (k := k) (o := o) (n := n) (cap := cap) (cs := cs) x
  have p2 := fun bs ts fl tf k o n cap cs x => den_put2 (pr := pr) hp (bs := bs) (ts := ts) (fl := fl) (tf := tf) (k := k) (o := o) (n := n) (cap := cap) (cs := cs) x
  have p4 := fun bs ts fl tf k o n cap cs x => den_put4 (pr := pr) hp (bs := bs) (ts := ts) (fl := fl) (tf := tf) (k := k) (o := o) (n := n) (cap := cap) (cs := cs) x
  obtain ⟨op, dst, src, off, imm⟩ := x
  simp only at h0 h1 h2 h3 h4 h5 hor
  have hs : IntKind.wrap .i64 (src * 16) = src * 16 := wrap_i64 (by omega) (by omega)
  have e1 : ∀ y : Int, IntKind.wrap .u8 (IntKind.wrap .u64 y) = y % 256 := fun y => by rw [wrap_u64, wrap_u8m]; omega
  have e2 : ∀ y : Int, IntKind.wrap .u8 ((IntKind.wrap .u64 y).fdiv 256) = y / 256 % 256 := fun y => by rw [wrap_u64, wrap_u8m, fdiv_pos' _ _ (by omega)]; omega
  have e3 : ∀ y : Int, IntKind.wrap .u8 ((IntKind.wrap .u64 y).fdiv 65536) = y / 65536 % 256 := fun y => by rw [wrap_u64, wrap_u8m, fdiv_pos' _ _ (by omega)]; omega
  have e4 : ∀ y : Int, IntKind.wrap .u8 ((IntKind.wrap .u64 y).fdiv 16777216) = y / 16777216 % 256 := fun y => by rw [wrap_u64, wrap_u8m, fdiv_pos' _ _ (by omega)]; omega
  have e5 : ∀ y : Int, IntKind.wrap .u8 ((IntKind.wrap .u64 y).fdiv 4294967296) = y / 4294967296 % 256 := fun y => by rw [wrap_u64, wrap_u8m, fdiv_pos' _ _ (by omega)]; omega
  have e6 : ∀ y : Int, IntKind.wrap .u8 (((IntKind.wrap .u64 y).fdiv 4294967296).fdiv 256) = y / 1099511627776 % 256 := fun y => by rw [wrap_u64, wrap_u8m, fdiv_pos' _ _ (by omega), fdiv_pos' _ _ (by omega)]; omega
  have e7 : ∀ y : Int, IntKind.wrap .u8 (((IntKind.wrap .u64 y).fdiv 4294967296).fdiv 65536) = y / 281474976710656 % 256 := fun y => by rw [wrap_u64, wrap_u8m, fdiv_pos' _ _ (by omega), fdiv_pos' _ _ (by omega)]; omega
  have e8 : ∀ y : Int, IntKind.wrap .u8 (((IntKind.wrap .u64 y).fdiv 4294967296).fdiv 16777216) = y / 72057594037927936 % 256 := fun y => by rw [wrap_u64, wrap_u8m, fdiv_pos' _ _ (by omega), fdiv_pos' _ _ (by omega)]; omega
  have u : ∀ (y : Int) i, ((byU y i).toNat : Int) = y / 256 ^ i % 256 := byU_nat
  by_cases hop : op = 24
  · simp [F76_code_laid, Ins.cells, ofDs, shI_shl, shI_shr, IntKind.bits, hs, hor, slcAV, bnds, bnd, p1, p2, p4, lay, u8, hop, cellsAt, toDs, e1, e2, e3, e4, e5, e6, e7, e8, bsl, Ins.enc, byteCells, u]
  · simp [F76_code_laid, Ins.cells, ofDs, shI_shl, shI_shr, IntKind.bits, hs, hor, slcAV, bnds, bnd, p1, p2, p4, lay, u8, hop, cellsAt, toDs, e1, e2, e3, e4, e5, e6, e7, e8, bsl, Ins.enc, byteCells, u]
end
/-- How many slots. -/
def slotsOf : List Ins → Nat
  | [] => 0
  | x :: r => (if x.op = 24 then 2 else 1) + slotsOf r
theorem slotsOf_app (a b : List Ins) : slotsOf (a ++ b) = slotsOf a + slotsOf b := by
  induction a with
  | nil => simp [slotsOf]
  | cons x a ih => simp only [List.cons_append, slotsOf, ih]; omega
theorem slotsOf_le (a : List Ins) : slotsOf a ≤ 2 * a.length := by
  induction a with
  | nil => simp [slotsOf]
  | cons x a ih =>
    simp only [slotsOf, List.length_cons]
    split <;> omega
def iencs : List Ins → List UInt8
  | [] => []
  | x :: r => x.enc ++ iencs r
theorem Ins.enc_len (x : Ins) : x.enc.length = if x.op = 24 then 16 else 8 := by
  unfold Ins.enc
  split <;> simp
theorem iencs_app (a b : List Ins) : iencs (a ++ b) = iencs a ++ iencs b := by
  induction a with
  | nil => simp [iencs]
  | cons x a ih => simp only [List.cons_append, iencs, ih, List.append_assoc]
theorem iencs_len (a : List Ins) : (iencs a).length = 8 * slotsOf a := by
  induction a with
  | nil => rfl
  | cons x a ih =>
    simp only [iencs, slotsOf, List.length_append, Ins.enc_len, ih]
    split <;> omega
theorem take_succ' {α : Type} {l : List α} {i : Nat} {x : α} (h : l[i]? = some x) : l.take (i + 1) = l.take i ++ [x] := by
  rw [List.take_add_one, h]
  rfl
section
variable {pr : Prog} (hp : Sub codeFns pr) {st : St}
include hp
theorem den_slots {v : V} {is : List Ins} (hv : SlC 5 v (is.map Ins.cells)) (hl : is.length ≤ 4611686018427387903) : den pr 0 [v] st = some (.d (.i .i64 (slotsOf is)), st) := by
  obtain ⟨u, hc, hu⟩ := hv.close
  refine den_shut (hp.at 0 rfl) rfl rfl (by simp [hc]; rfl) ?_
  have hlen := hu.len
  rw [List.length_map] at hlen
  simp [F0_code_Slots, hlen]
  generalize hL : cden pr (.loop _ _ _) _ _ = o
  obtain ⟨r, rfl, hQ⟩ : ∃ r, o = some r ∧ ∃ e, r = (.exit 0, e, s0 [] [] 0 0) ∧ e.get 3 = some (.d (.i .i64 (slotsOf is))) := by
    rw [← hL]
    refine loop_n is.length (fun i => [(3, .d (.i .i64 ((is.length : Int) + slotsOf (is.take i) - i))), (8, u), (9, .d (.i .i64 is.length)), (10, .d (.i .i64 i))]) (fun _ => s0 [] [] 0 0) ?_ (by simp [slotsOf]) (by simp)
    intro i hi
    rcases Nat.lt_or_ge i is.length with h | h
    · obtain ⟨x, hx⟩ : ∃ x, is[i]? = some x := ⟨_, List.getElem?_eq_getElem h⟩
      have hs := slotsOf_le (is.take i)
      rw [List.length_take] at hs
      have h1 : IntKind.wrap .i64 ((i : Int) + 1) = i + 1 := wrap_i64 (by omega) (by omega)
      have h2 : IntKind.wrap .i64 ((is.length : Int) + slotsOf (is.take i) - i + 1) = is.length + slotsOf (is.take i) - i + 1 := wrap_i64 (by omega) (by omega)
      have hia := hu.iaddr (i := (i : Int)) (k := .i64) (by omega) (by simp; omega)
      have hld := fun st => hu.load (st := st) (i := i) (o := 0) (n := 5) (agg := true) (el := x.cells) (by simp [hx]) (by omega) (by omega)
      have hes := fun st a b => hu.esc st a b
      by_cases hop : x.op = 24
      · simp [F0_code_Slots_b0, h, hia, hld, ins_take, Ins.cells, ofDs, lay, hop, h1, h2, take_succ' hx, slotsOf_app, slotsOf, hes]
        omega
      · simp [F0_code_Slots_b0, h, hia, hld, ins_take, Ins.cells, ofDs, lay, hop, h1, h2, take_succ' hx, slotsOf_app, slotsOf, hes]
        omega
    · obtain rfl : i = is.length := by omega
      simp [F0_code_Slots_b0]
      omega
  obtain ⟨e, rfl, h3⟩ := hQ
  simp [h3]
end
/-- The first instruction that may not be. -/
def firstBad : List Ins → Option Nat
  | [] => none
  | x :: r => if mayV x ≠ 0 then some 0 else (firstBad r).map (· + 1)
theorem firstBad_none : ∀ {is : List Ins}, firstBad is = none ↔ ∀ x ∈ is, mayV x = 0
  | [] => by simp [firstBad]
  | x :: r => by
    unfold firstBad
    by_cases h : mayV x = 0
    · simp [h, firstBad_none (is := r)]
    · simp [h]
theorem firstBad_some : ∀ {is : List Ins} {i : Nat}, (∀ y ∈ is.take i, mayV y = 0) → (∃ x, is[i]? = some x ∧ mayV x ≠ 0) → firstBad is = some i
  | [], i, _, h => by
    obtain ⟨x, hx, _⟩ := h
    simp at hx
  | x :: r, 0, _, h => by
    obtain ⟨y, hy, h⟩ := h
    simp at hy
    subst hy
    simp [firstBad, h]
  | x :: r, i + 1, h1, h => by
    have h0 : mayV x = 0 := h1 x (by simp)
    have := firstBad_some (is := r) (i := i) (fun y hy => h1 y (by simp [hy])) (by simpa using h)
    simp [firstBad, h0, this]
/-- What Encode gives. -/
def encOut (is : List Ins) : V := match firstBad is with
  | some i => .tup [.d (.sl 0 false []), .d (.i .i64 i), .d (.i .i64 (mayV (is.getD i ⟨0, 0, 0, 0, 0⟩)))]
  | none => .tup [bsl true (iencs is), .d (.i .i64 0), .d (.i .i64 0)]
section
variable {pr : Prog} (hI : IsaOk pr) (hp : Sub codeFns pr) {st : St}
include hI hp
theorem den_Encode {v : V} {is : List Ins} (hv : SlC 5 v (is.map Ins.cells)) (hl : is.length ≤ 7036874417766) : den pr 70 [v] st = some (encOut is, st) := by
  obtain ⟨u, hc, hu⟩ := hv.close
  refine den_shut (hp.at 1 rfl) rfl rfl (by simp [hc]; rfl) ?_
  have hlen := hu.len
  rw [List.length_map] at hlen
  have hes := fun st a b => hu.esc st a b
  have hslots := fun st => den_slots (pr := pr) hp (st := st) hu.c (by omega)
  have hsl := slotsOf_le is
  have hm8 : IntKind.wrap .i64 (8 * (slotsOf is : Int)) = 8 * slotsOf is := wrap_i64 (by omega) (by omega)
  simp [F70_code_Encode, hlen]
  generalize hL : cden pr (.loop _ _ _) _ _ = o
  obtain ⟨r, rfl, hQ⟩ : ∃ r, o = some r ∧ ((firstBad is = none ∧ ∃ e, r = (.exit 0, e, s0 [] [] 0 0) ∧ e.get 0 = some u) ∨ ∃ i e, firstBad is = some i ∧ r = (.ret, e, s0 [] [] 0 0) ∧ e.get 2 = some (.d (.sl 0 false [])) ∧ e.get 3 = some (.d (.i .i64 i)) ∧ e.get 4 = some (.d (.i .i64 (mayV (is.getD i ⟨0, 0, 0, 0, 0⟩))))) := by
    rw [← hL]
    obtain ⟨J, hJ⟩ : ∃ J : Nat → Env → St → Prop, J = (fun n e st => ∃ i : Nat, i ≤ is.length ∧ n = is.length - i ∧ (∀ y ∈ is.take i, mayV y = 0) ∧ st = s0 [] [] 0 0 ∧ e = [(0, u), (11, u), (12, .d (.i .i64 is.length)), (13, .d (.i .i64 i))]) := ⟨_, rfl⟩
    refine loop_j J ?_ (n := is.length) ?_
    rotate_left
    · rw [hJ]
      exact ⟨0, by omega, by omega, by simp, rfl, by simp⟩
    intro n e st hj
    rw [hJ] at hj
    obtain ⟨i, hi, rfl, hok, rfl, rfl⟩ := hj
    rcases Nat.lt_or_ge i is.length with h | h
    · obtain ⟨x, hx⟩ : ∃ x, is[i]? = some x := ⟨_, List.getElem?_eq_getElem h⟩
      have h1 : IntKind.wrap .i64 ((i : Int) + 1) = i + 1 := wrap_i64 (by omega) (by omega)
      have hia := hu.iaddr (i := (i : Int)) (k := .i64) (by omega) (by simp; omega)
      have hld := fun st => hu.load (st := st) (i := i) (o := 0) (n := 5) (agg := true) (el := x.cells) (by simp [hx]) (by omega) (by omega)
      have hm := fun st => den_may hI (st := st) x
      have hmx : ∀ st, den pr 27 [.agg [.d (.i .i64 x.op), .d (.i .i64 x.dst), .d (.i .i64 x.src), .d (.i .i64 x.off), .d (.i .i64 x.imm)]] st = some (.d (.i .i64 (mayV x)), st) := hm
      by_cases hb : mayV x = 0
      · simp [F70_code_Encode_b0, h, hia, hld, ins_take, Ins.cells, ofDs, lay, hmx, hb, h1, hes]
        refine ⟨is.length - (i + 1), by omega, ?_⟩
        rw [hJ]
        refine ⟨i + 1, by omega, rfl, ?_, rfl, by simp⟩
        intro y hy
        rw [take_succ' hx] at hy
        simp only [List.mem_append, List.mem_singleton] at hy
        rcases hy with hy | rfl
        · exact hok y hy
        · exact hb
      · have hfb := firstBad_some hok ⟨x, hx, hb⟩
        obtain ⟨_, hxx⟩ := List.getElem?_eq_some_iff.1 hx
        simp [F70_code_Encode_b0, h, hia, hld, ins_take, Ins.cells, ofDs, lay, hmx, hb, h1, hes, hfb, hxx]
    · have hil : i = is.length := by omega
      rw [hil, List.take_length] at hok
      have hfb := firstBad_none.2 hok
      simp [F70_code_Encode_b0, hil, hfb, hes]
  rcases hQ with ⟨hfb, e, rfl, g0⟩ | ⟨i, e, hfb, rfl, g2, g3, g4⟩
  rotate_left
  · simp [g2, g3, g4, encOut, hfb]
  have hall := firstBad_none.1 hfb
  have hr0 : room 1 (.d (.i .i64 0)) = some 0 := by simp [room]
  have hr1 : room 1 (.d (.i .i64 (8 * (slotsOf is : Int)))) = some (8 * slotsOf is) := by
    simp only [room]
    rw [if_pos (by omega)]
    congr 1
  simp [g0, hslots, hm8, hlen, hr0, hr1, reps]
  generalize hL2 : cden pr (.loop _ _ _) _ _ = o
  obtain ⟨r, rfl, hQ⟩ : ∃ r, o = some r ∧ ∃ e, r = (.exit 2, e, s0 [] [(iencs is).length] 0 0) ∧ e.get 8 = some (.own 1 (iencs is).length true (byteCells (iencs is)) 0) := by
    rw [← hL2]
    refine loop_n is.length (fun i => [(8, .own 1 (iencs (is.take i)).length true (byteCells (iencs (is.take i))) 0), (29, u), (30, .d (.i .i64 is.length)), (31, .d (.i .i64 i))]) (fun i => s0 [] [(iencs (is.take i)).length] 0 0) ?_ (by simp [iencs, byteCells]) (by simp [iencs])
    intro i hi
    rcases Nat.lt_or_ge i is.length with h | h
    · obtain ⟨x, hx⟩ : ∃ x, is[i]? = some x := ⟨_, List.getElem?_eq_getElem h⟩
      have hmay := may_range (hall x (List.mem_of_getElem? hx))
      have hs := slotsOf_le (is.take i)
      rw [List.length_take] at hs
      have h1 : IntKind.wrap .i64 ((i : Int) + 1) = i + 1 := wrap_i64 (by omega) (by omega)
      have hia := hu.iaddr (i := (i : Int)) (k := .i64) (by omega) (by simp; omega)
      have hld := fun st => hu.load (st := st) (i := i) (o := 0) (n := 5) (agg := true) (el := x.cells) (by simp [hx]) (by omega) (by omega)
      have hlaid : ∀ st, den pr 76 [.agg [.d (.i .i64 x.op), .d (.i .i64 x.dst), .d (.i .i64 x.src), .d (.i .i64 x.off), .d (.i .i64 x.imm)]] st = some (bsl true x.enc, st) := fun st => den_laid hp (st := st) x (by omega) (by omega) (by omega) (by omega) (by omega) (by omega)
      have hxl : x.enc.length ≤ 16 := by
        rw [Ins.enc_len]
        split <;> omega
      have htl := iencs_len (is.take i)
      have happ : iencs (is.take (i + 1)) = iencs (is.take i) ++ x.enc := by
        rw [take_succ' hx, iencs_app]
        simp [iencs]
      generalize iencs (is.take i) = A at *
      generalize x.enc = B at *
      have hb1 : A.length + B.length ≤ 140737488355328 := by omega
      simp [F70_code_Encode_b1, h, hia, hld, ins_take, Ins.cells, ofDs, lay, hlaid, h1, hes, happ, appV, hb1, byteCells_len, byteCells_app]
    · obtain rfl : i = is.length := by omega
      simp [F70_code_Encode_b1]
  obtain ⟨e, rfl, h8⟩ := hQ
  simp [h8, encOut, hfb, bsl]
end
end Go.Sh
