/- The law SymtabOne on shadow runs. -/
import Derived.Test.YtbjckcenlfgcaaaShLsymtabI
import Derived.Test.YtbjckcenlfgcaaaShBe
set_option linter.unusedVariables false
set_option linter.unusedSimpArgs false
namespace Go.Sh
section
variable {pr : Prog} (hp : Sub symFns pr) {st : St}
include hp
/-- Write's bytes are new memory. -/
theorem callW_Write {v u : V} {m : Nat} {ss : List Sym} (hc : seeA st m [v] = some [u]) (hu : SlD 6 u (ss.map Sym.cells)) (hl : ss.length ≤ 2932031007402) : CallW pr 31 [v] st fun r s => (∃ o c k, wrRun o0 ss = .ok (o, c) ∧ r = .tup [.rsl 1 st.heap.length 0 (symFile ss).length ((symFile ss).length + k), .d (.i .i64 0)] ∧ s = st.push (.row (brow (symFile ss) k))) ∨
    ∃ k, wrRun o0 ss = .error k ∧ r = .tup [.d (.sl 0 false []), .d (.i .i64 k)] ∧ s = st := by
  refine .seen hc (((raw_Write hp hu hl).callW (hp.at 20 rfl) rfl).mono ?_)
  rintro v s (⟨o, c, hw, rfl, ht⟩ | ⟨k, hw, rfl⟩)
  · have hlen := symFile_len hw
    have hcells : zeros24 ++ c = byteCells (symFile ss) := by
      unfold symFile
      rw [byteCells_app, ← zeros24_eq, wrRun_enc ss hw]
    rw [hcells]
    have hcl : (byteCells (symFile ss)).length = 24 * ss.length + 24 := by rw [byteCells_len, hlen]
    have hfl := bytes_flat (symFile ss)
    simp only [FreshR, FreshL, FreshV, ht, hfl, hcl, true_and, Nat.mul_one]
    refine .inr fun k => ⟨rfl, .inl ⟨o, c, k, hw, ?_, ?_⟩⟩
    · rw [hlen]
    · simp [pushO, brow]
  · simp [FreshR, FreshL, FreshV, D.flat, pushO, V.flat, hw]
/-- Read, of bytes that may lie in a row; its symbols as data. -/
theorem callW_Read {v u : V} {m : Nat} {l : List UInt8} (hc : seeA st m [v] = some [u]) (hu : SlD 1 u (l.map byC)) (hl : l.length ≤ 70368744177672) : CallW pr 32 [v] st fun r s => r = readOut (readOf l) ∧ s = st := by
  refine .seen hc (((raw_Read hp hu hl).callW (hp.at 21 rfl) rfl).mono ?_)
  rintro v s (⟨acc, hw, rfl, ht⟩ | ⟨k, p, hw, rfl⟩)
  · have hfl : ((acc.map Sym.cells).flatten).length = acc.length * 6 := by rw [flatten_len (sz := 6) (fun y hy => by simp only [List.mem_map] at hy; obtain ⟨z, _, rfl⟩ := hy; rfl), List.length_map]
    rcases acc with _ | ⟨x, acc⟩
    · simp [FreshR, FreshL, FreshV, D.flat, pushO, V.flat, hw, readOut]
    · have hall : (((x :: acc).map Sym.cells).flatten).all D.flat = true := by simp [Sym.cells, D.flat]
      simp only [readOut, hw]
      generalize ((x :: acc).map Sym.cells).flatten = F at *
      simp only [List.length_cons] at ht hfl
      simp only [List.all_eq_true] at hall
      simp [FreshR, FreshL, FreshV, D.flat, pushO, V.flat, ht, hfl, hall]
      exact hall
  · simp [FreshR, FreshL, FreshV, D.flat, pushO, V.flat, hw, readOut]
end
def lawOneFns : List (Nat × SFn) := [(37, F37_spindlelaw10_SymtabOne)]
def wOne : Nat → Bool := fun f => f == 31 || f == 32
section
variable {pr : Prog} (hp : Sub symFns pr) (hq : Sub law10Fns pr) (ho : Sub lawOneFns pr) (haw : ∀ st, den pr 30 [] st = some (.d (.b true), st)) {st : St}
include hp hq ho haw
theorem law_SymtabOne (nz : Bool) (b : List UInt8) (at_ : Int) (to : UInt8) (hl : b.length ≤ 70368744177672) (hat : at_ ≤ 9223372036854775807) : CallW pr 37 [bsl nz b, .d (.i .i64 at_), .d (.i .u8 to.toNat)] st fun v s => s = st ∧ v = .d (.b true) := by
  refine .run0 wOne (ho.at 0 rfl) (by simp; rfl) rfl rfl (codeC_of ?_)
  have hcb := fun st => den_copyBytes (pr := pr) hq (st := st) (nz := nz) (L := b) (by omega)
  have hnum := fun x st => den_num (pr := pr) hq (st := st) x
  simp [F37_spindlelaw10_SymtabOne, wOne, haw, hcb]
  refine (callW_Read (m := 1) hp (by rfl) (bsl_d true b) hl).mono ?_
  rintro v s ⟨rfl, rfl⟩
  obtain ⟨ss, p, k, hr⟩ : ∃ ss p k, readOf b = (ss, p, k) := ⟨_, _, _, rfl⟩
  rw [hr, readOut_eq]
  rcases read_err hr with ⟨rfl, rfl⟩ | ⟨hk, rfl⟩
  rotate_left
  · simp [wOne, hnum, hk]
  obtain ⟨⟨o, c, hw⟩, hfile, hsl⟩ := read_one hr
  have hcp := appV_copy symC (nz := decide (0 < ss.length)) (l := ss) (bytes := 48) (ts := [0]) (bs := []) (fl := 0) (tf := 0) (t := 0) rfl (by omega) (by omega) (by omega)
  simp [wOne, hnum, reps, fillV, ofDs, hcp]
  refine (callW_Write (m := 0) hp (u := dsl Sym.cells true ss) rfl (dsl_d symC true ss) (by omega)).mono ?_
  rintro v s (⟨o', c', k, hw', rfl, rfl⟩ | ⟨k, hw', rfl, rfl⟩)
  rotate_left
  · rw [hw] at hw'
    cases hw'
  rw [hfile]
  have hrow : ∀ ts, (s0 [.row (brow b k)] ts 0 0).row 0 = some (brow b k) := fun ts => by simp
  have hb2 := fun ts => b2s_brow (cap := b.length + k) (hrow ts)
  simp [wOne, hnum, hb2]
  by_cases a1 : at_ < 0
  · simp [wOne, a1]
  by_cases a2 : (b.length : Int) ≤ at_
  · simp [wOne, a1, a2]
  obtain ⟨i, rfl⟩ : ∃ i : Nat, at_ = i := ⟨at_.toNat, by omega⟩
  have hi : i < b.length := by omega
  obtain ⟨x, hx⟩ : ∃ x, b[i]? = some x := ⟨_, List.getElem?_eq_getElem hi⟩
  have hb := bsl_d nz b
  have hia := hb.iaddr (i := (i : Int)) (k := .i64) (by omega) (by simp; omega)
  have hld := fun st => hb.load (st := st) (i := i) (o := 0) (n := 1) (agg := false) (el := byC x) (by simp [hx]) (by omega) (by omega)
  simp [byC, ofDs] at hia hld
  by_cases hxt : x = to
  · subst hxt
    simp [wOne, a1, a2, hia, hld]
  have hxt' : ¬ (x.toNat : Int) = to.toNat := fun e => hxt (UInt8.toNat_inj.1 (by omega))
  have hset := brow_set (k := k) (x := to) hi
  have hbl := brow_len b k
  have hia2 := iaddr_row (size := 1) (sz := 1) (id := 0) (off := 0) (cap := b.length + k) (k := .i64) hi
  have hik : i + 1 ≤ b.length + k := by omega
  simp at hia2
  simp [wOne, a1, a2, hia, hld, hxt', hi, hset, hbl, hia2, hik]
  have hsee := see_brow (st := s0 [.row (brow (b.set i to) k)] [ss.length] 0 0) (L := b.set i to) (j := 0) (k := k) (cap := b.length + k) (m := 0) (by simp)
  rw [List.length_set] at hsee
  refine (callW_Read (m := 1) hp (seeA_one hsee) (bsl_d true (b.set i to)) (by simpa using hl)).mono ?_
  rintro v s ⟨rfl, rfl⟩
  rcases read_turned hr hi (x := to) (by rw [hx]; simp [hxt]) with ⟨tt, hrt, hne⟩ | ⟨p, k', hrt, hk', hp', hpl⟩
  · have hsame := fun st => den_sameSymbols (pr := pr) hq (st := st) (dsl_c symC (decide (0 < ss.length)) ss) (dsl_c symC (decide (0 < tt.length)) tt) (by omega)
    rw [hrt, readOut_eq]
    simp [wOne, hnum, hsame, hne]
  · have w1 : IntKind.wrap .i64 (((i / 24 : Nat) : Int) + 1) = ((i / 24 : Nat) : Int) + 1 := wrap_i64 (by omega) (by omega)
    have q1 : IntKind.wrap .i64 ((p : Int) / 24) = ((p / 24 : Nat) : Int) := by rw [wrap_i64 (by omega) (by omega)]; rfl
    have q2 : IntKind.wrap .i64 ((i : Int) / 24) = ((i / 24 : Nat) : Int) := by rw [wrap_i64 (by omega) (by omega)]; rfl
    rw [hrt, readOut_eq]
    generalize p / 24 = P at *
    generalize i / 24 = I at *
    rcases hp' with rfl | rfl
    · simp [wOne, hnum, hk', q1, q2]
    · have hne : ¬ ((I + 1 : Nat) : Int) = (I : Int) := by omega
      have hne2 : ¬ (I : Int) + 1 = I := by omega
      have he : ((I + 1 : Nat) : Int) = (I : Int) + 1 := rfl
      rw [he] at q1
      simp [wOne, hnum, hk', q1, q2, hne2, w1]
end
end Go.Sh
