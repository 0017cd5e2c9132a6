/- Lenders: what was lent is given back. -/
import Derived.Test.YtnemobbnlacmjaaShLlender
set_option linter.unusedVariables false
set_option linter.unusedSimpArgs false
namespace Go.Sh
section
variable {pr : Prog} (hd : Sub lendFns pr) {st : St}
include hd
theorem den_Back {p r : Nat} {nz : Bool} {L : List UInt8} {c : List V} (h : Lent st p r L c) (hL : L.length ≤ 8589934592) :
    ∃ st', den pr 170 [.ptr p 0, bsl nz L] st = some (.d (.b true), st') ∧ LnI st' p (.rsl 1 r 0 c.length c.length) L.length (some r) ∧ Kp st st' (fun i => i = r) (fun _ => False) := by
  have hbl : lenV (bsl nz L) = some L.length := rfl
  have hcl := h.len
  have w1 : IntKind.wrap .i64 (2 * (L.length : Int)) = 2 * L.length := wrap_i64 (by omega) (by omega)
  have w2 : IntKind.wrap .i64 (2 * (L.length : Int) + 70) = 2 * L.length + 70 := wrap_i64 (by omega) (by omega)
  have hmk := fun x i st => den_mark hd (st := st) x i
  have hrow := h.row
  obtain ⟨W, hW⟩ : ∃ W, W = wrow (lcell L) c (2 * L.length + 70) := ⟨_, rfl⟩
  have hbuf := h.buf
  rw [← hW] at hbuf
  have hWl : W.length = c.length := by rw [hW]; exact wrow_len hcl
  have hrl := row_lt hbuf
  have hpl := row_lt hrow
  have hbv := (h.bv c.length (by omega)).b2s
  have hslc : slcV 1 (.rsl 1 r 0 c.length c.length) none (some (.d (.i .i64 (L.length : Int)))) none = some (.rsl 1 r 0 L.length c.length) := by
    have b1 : (0 : Int) ≤ L.length ∧ (L.length : Int) ≤ c.length := by omega
    simp only [slcV, if_true, bnds, bnd, intV, b1, and_self, Int.toNat_natCast, Option.map_some, Nat.zero_mul, Nat.add_zero, Nat.sub_zero]
  suffices hh : ∃ y, den pr 170 [.ptr p 0, bsl nz L] st = some y ∧ y = (.d (.b true), st.put r (wrow (fun _ => .d (.i .u8 120)) W L.length)) by
    obtain ⟨_, h1, rfl⟩ := hh
    refine ⟨_, h1, ⟨by simpa using h.fl, by rw [row_put_ne (Ne.symm h.ne)]; exact hrow, .inr ⟨r, _, rfl, ?_, row_put_eq hrl, h.ne⟩⟩, .put rfl⟩
    rw [wrow_len (by omega), hWl]
  rw [den_fn (hd.at 1 rfl) rfl rfl, start_raw _ rfl]
  simp [F170_spindlelaw0_Lender_Back, hrow, hbl, hslc, hbv]
  generalize hLo : cden pr (.loop [0, 5, 6] _ _) _ _ = o
  obtain ⟨r1, rfl, hR1⟩ : ∃ r1, o = some r1 ∧ ∃ e, r1 = (.exit 0, e, st) ∧ e.get 0 = some (.ptr p 0) ∧ e.get 5 = some (.d (.b true)) := by
    rw [← hLo]
    refine loop_n (L.length + 70) (fun i => [(0, .ptr p 0), (5, .d (.b true)), (6, .d (.i .i64 ((L.length : Int) + (i : Int))))]) (fun _ => st) ?_ (by simp) rfl
    intro i hi
    rcases Nat.lt_or_ge i (L.length + 70) with hlt | hge
    · have hia := iaddr_row (size := 1) (sz := 1) (id := r) (off := 0) (n := c.length) (cap := c.length) (k := .i64) (i := L.length + i) (by omega)
      simp at hia
      have hlt3 : (L.length : Int) + i < 2 * L.length + 70 := by omega
      have h1 : IntKind.wrap .i64 ((L.length : Int) + (i : Int) + 1) = (L.length : Int) + (i + 1) := by rw [wrap_i64 (by omega) (by omega)]; omega
      have hmk1 := fun st => hmk (.ptr p 0) (L.length + i) st
      simp at hmk1
      have hget : W[L.length + i]? = some (.d (.i .u8 (lmk (L.length + i)))) := by
        rw [hW, wrow_get (by omega)]
        simp [lcell]
      have hld : loadV 1 false st (.ptr r (L.length + i)) = some (.d (.i .u8 (lmk (L.length + i)))) := by
        have hlt4 := (List.getElem?_eq_some_iff.1 hget).1
        simp only [loadV_ptr, hbuf]
        rw [if_pos (by omega), List.drop_eq_getElem_cons (by omega), List.take_succ_cons, List.take_zero, (List.getElem?_eq_some_iff.1 hget).2]
        rfl
      obtain ⟨P, hP⟩ : ∃ P, P = V.ptr r (L.length + i) := ⟨_, rfl⟩
      rw [← hP] at hld hia
      simp [F170_spindlelaw0_Lender_Back_b0, hrow, w1, w2, hlt3, hia, hld, hmk1, h1, hlt]
    · have : i = L.length + 70 := by omega
      subst this
      have hlt3 : ¬ ((L.length : Int) + (L.length + 70) < 2 * L.length + 70) := by omega
      simp [F170_spindlelaw0_Lender_Back_b0, hrow, w1, w2, hlt3]
  obtain ⟨e, rfl, e0, e5⟩ := hR1
  simp [e0, e5]
  generalize hLo2 : cden pr (.loop [0, 5, 7] _ _) _ _ = o
  obtain ⟨f, hf⟩ : ∃ f : Nat → V, f = fun _ => .d (.i .u8 120) := ⟨_, rfl⟩
  have hfi : ∀ i, f i = .d (.i .u8 120) := fun i => by rw [hf]
  obtain ⟨r2, rfl, hR2⟩ : ∃ r1, o = some r1 ∧ ∃ e, r1 = (.exit 2, e, st.put r (wrow f W L.length)) ∧ e.get 5 = some (.d (.b true)) := by
    rw [← hLo2]
    obtain ⟨S, hS⟩ : ∃ S : Nat → St, ∀ i, S i = st.put r (wrow f W i) := ⟨_, fun _ => rfl⟩
    suffices hx : ∃ r1, cden pr (.loop [0, 5, 7] false F170_spindlelaw0_Lender_Back_b1) [(0, .ptr p 0), (5, .d (.b true)), (7, .d (.i .i64 0))] st = some r1 ∧ ∃ e, r1 = (.exit 2, e, S L.length) ∧ e.get 5 = some (.d (.b true)) by
      obtain ⟨r1, q1, e, q2, q3⟩ := hx
      exact ⟨r1, q1, e, by rw [q2, hS], q3⟩
    refine loop_n L.length (fun i => [(0, .ptr p 0), (5, .d (.b true)), (7, .d (.i .i64 (i : Int)))]) S ?_ (by simp) (by rw [hS, wrow_zero, put_self hbuf])
    intro i hi
    have hst' : (S i).row p = some [.rsl 1 r 0 c.length c.length, .d (.i .i64 L.length)] := by rw [hS, row_put_ne (Ne.symm h.ne)]; exact hrow
    have hsr' : (S i).row r = some (wrow f W i) := by rw [hS]; exact row_put_eq hrl
    rcases Nat.lt_or_ge i L.length with hlt | hge
    · have hia := iaddr_row (size := 1) (sz := 1) (id := r) (off := 0) (n := c.length) (cap := c.length) (k := .i64) (i := i) (by omega)
      simp at hia
      have h1 : IntKind.wrap .i64 ((i : Int) + 1) = i + 1 := wrap_i64 (by omega) (by omega)
      have hw := wrow_step (f := f) (c := W) (i := i) (by omega)
      rw [hfi] at hw
      have hwl := wrow_len (f := f) (c := W) (i := i) (by omega)
      have hset' : (S i).setBlk r (.row (lay (wrow f W i) i [.d (.i .u8 120)])) = some (S (i + 1)) := by rw [hw, hS, setBlk_put (by simpa using h.fl), put_put, hS]
      have hlt2 : i + 1 ≤ c.length := by omega
      simp [F170_spindlelaw0_Lender_Back_b1, hst', hlt, hia, hsr', hset', hwl, hWl, h1, hlt2]
    · have : i = L.length := by omega
      subst this
      simp [F170_spindlelaw0_Lender_Back_b1, hst']
  obtain ⟨e', rfl, e5'⟩ := hR2
  simp [e5', hf]
end
end Go.Sh
