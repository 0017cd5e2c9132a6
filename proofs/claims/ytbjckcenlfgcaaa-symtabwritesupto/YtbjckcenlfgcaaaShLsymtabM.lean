/- Symbols that are lent in memory. -/
import Derived.Test.YtbjckcenlfgcaaaShLsymtabL
import Derived.Test.YtbjckcenlfgcaaaShBe
import Derived.Test.YtbjckcenlfgcaaaShFlaw10
set_option linter.unusedVariables false
set_option linter.unusedSimpArgs false
namespace Go.Sh
def deskFns : List (Nat × SFn) := [(129, F129_spindlelaw10_behind), (124, F124_spindlelaw10_Desk_Lend), (125, F125_spindlelaw10_Desk_Back), (121, F121_spindlelaw10_turned)]
def behindC (i : Nat) : List D := [.i .i64 (IntKind.wrap .i64 (-9 - i)), .i .i64 0, .i .i64 0, .i .i64 0, .i .i64 (IntKind.wrap .i64 (3 * i)), .i .i64 0]
def lcell (ss : List Sym) (k : Nat) : List D := match ss[k]? with
  | some x => x.cells
  | none => behindC k
theorem lcell_len (ss : List Sym) (k : Nat) : (lcell ss k).length = 6 := by
  unfold lcell
  cases ss[k]? <;> rfl
def lrow (ss : List Sym) (i : Nat) : List V := ofDs ((List.range i).flatMap (lcell ss))
theorem lrow_len (ss : List Sym) : ∀ i, (lrow ss i).length = 6 * i
  | 0 => rfl
  | i + 1 => by
    have ih := lrow_len ss i
    simp only [lrow, ofDs, List.length_map, List.range_succ, List.flatMap_append, List.length_append, List.flatMap_cons, List.flatMap_nil, List.append_nil, lcell_len] at ih ⊢
    omega
theorem lrow_succ (ss : List Sym) (i : Nat) : lrow ss (i + 1) = lrow ss i ++ ofDs (lcell ss i) := by
  simp [lrow, ofDs, List.range_succ]
theorem lrow_get (ss : List Sym) : ∀ {n k : Nat} (t : List V), k < n → ((lrow ss n ++ t).drop (k * 6)).take 6 = ofDs (lcell ss k)
  | 0, k, t, h => by omega
  | n + 1, k, t, h => by
    rw [lrow_succ, List.append_assoc]
    rcases Nat.lt_or_ge k n with hk | hk
    · exact lrow_get ss _ hk
    · obtain rfl : k = n := by omega
      rw [List.drop_left' (by rw [lrow_len]; omega), List.take_left' (by rw [ofDs, List.length_map, lcell_len])]
theorem lay_mid {α : Type} {a b c d : List α} {o : Nat} (ho : a.length = o) (h : b.length = d.length) : lay (a ++ (b ++ c)) o d = a ++ (d ++ c) := by
  subst ho
  unfold lay
  rw [List.take_left' rfl, ← List.append_assoc a b c, List.drop_left' (by simp [h]), List.append_assoc]
theorem slc_lent (i : Nat) {m n : Nat} (hm : 2 * n + 70 ≤ m) : slcV 6 (.rsl 6 i 0 m m) none (some (.d (.i .i64 n))) (some (.d (.i .i64 (2 * (n : Int) + 70)))) = some (.rsl 6 i 0 n (2 * n + 70)) := by
  have e1 : (2 * (n : Int) + 70).toNat = 2 * n + 70 := by omega
  have b1 : bnd (some (.d (.i .i64 (2 * (n : Int) + 70)))) m m = some (2 * n + 70) := by
    show (if 0 ≤ 2 * (n : Int) + 70 ∧ 2 * (n : Int) + 70 ≤ m then some (2 * (n : Int) + 70).toNat else none) = _
    rw [if_pos (by omega), e1]
  have b2 : bnd (some (.d (.i .i64 (n : Int)))) m (2 * n + 70) = some n := by
    show (if 0 ≤ (n : Int) ∧ (n : Int) ≤ (2 * n + 70 : Nat) then some (n : Int).toNat else none) = _
    rw [if_pos (by omega), Int.toNat_natCast]
  have b3 : bnds m m none (some (.d (.i .i64 n))) (some (.d (.i .i64 (2 * (n : Int) + 70)))) = some (0, n, 2 * n + 70) := by
    unfold bnds
    rw [b1]
    simp only
    rw [b2]
    rfl
  simp only [slcV, if_true, b3, Option.map_some, Nat.zero_mul, Nat.add_zero, Nat.sub_zero]
theorem six_eq {x : List D} (h : ∃ a b c d e f : Int, x = [.i .i64 a, .i .i64 b, .i .i64 c, .i .i64 d, .i .i64 e, .i .i64 f]) : eqV [9, 0, 0, 0, 0, 0, 0] (.agg (ofDs x)) (.agg (ofDs x)) = some true := by
  obtain ⟨a, b, c, d, e, f, rfl⟩ := h
  simp only [eqV, toDs_ofDs', List.length_cons, List.length_nil, eqDs, eqK]
  simp
theorem LR.esc {s : St} {sz n : Nat} {v : V} {F : List D} {j : Option Nat} (h : LR s sz v n (ofDs F) j) : ∃ nz, Go.Sh.esc s 0 0 v = some (.d (.sl n nz F)) := by
  obtain ⟨h0, ⟨rfl, rfl, rfl⟩ | ⟨j0, cap, tail, rfl, rfl, h1, h2, h3⟩⟩ := h
  · have : F = [] := by
      cases F with
      | nil => rfl
      | cons a l => simp [ofDs] at h0
    subst this
    exact ⟨false, rfl⟩
  · refine ⟨true, ?_⟩
    have hl : n * sz ≤ (ofDs F ++ tail).length := by rw [List.length_append]; omega
    have ht : (ofDs F ++ tail).take (n * sz) = ofDs F := by rw [← h0]; exact List.take_left' rfl
    simp [Go.Sh.esc, esc1, escC, cellsAt, h2, hl, ht, toDs_of]
    omega
theorem vwV_data6 (st : St) (n : Nat) (nz : Bool) (ds : List D) : vwV 6 st (.d (.sl n nz ds)) = some (n, ofDs ds) := rfl
section
variable {pr : Prog} (hp : Sub deskFns pr) {st : St}
include hp
theorem den_behind (i : Nat) : den pr 129 [.d (.i .i64 i)] st = some (.agg (ofDs (behindC i)), st) := by
  refine den_shut (hp.at 0 rfl) rfl rfl (by simp; rfl) ?_
  simp [F129_spindlelaw10_behind, behindC, ofDs, fillV, lay]
/-- A desk: nothing yet, or rows to lend. -/
def DeskI (s : St) (q : Nat) (id : Option Nat) : Prop := q < s.heap.length ∧ ((id = none ∧ s.row q = some [.d (.sl 0 false [])]) ∨ ∃ i m c, id = some i ∧ i ≠ q ∧ s.row q = some [.rsl 6 i 0 m m] ∧ s.row i = some c ∧ c.length = 6 * m)
/-- A desk that has lent these. -/
def LentI (s : St) (q : Nat) (i : Nat) (ss : List Sym) : Prop := i ≠ q ∧ ∃ m tail, s.row q = some [.rsl 6 i 0 m m] ∧ 2 * ss.length + 70 ≤ m ∧ s.row i = some (lrow ss (2 * ss.length + 70) ++ tail) ∧ (lrow ss (2 * ss.length + 70) ++ tail).length = 6 * m
theorem den_LendL {q i m : Nat} {u : V} {c : List V} {ss : List Sym} (hf : st.floor = 0) (hu : SlD 6 u (ss.map Sym.cells)) (hn : ss.length ≤ 100000000000) (hq : st.row q = some [.rsl 6 i 0 m m]) (hiq : i ≠ q) (hi : st.row i = some c) (hc : c.length = 6 * m) (hm : 2 * ss.length + 70 ≤ m) {e : Env} :
    ∃ e', cden pr (.loop [0, 1, 5] false F124_spindlelaw10_Desk_Lend_b0) [(0, .ptr q 0), (1, u), (5, .d (.i .i64 0))] st = some (.exit 0, e', st.put i (lrow ss (2 * ss.length + 70) ++ c.drop (6 * (2 * ss.length + 70)))) ∧ e'.get 0 = some (.ptr q 0) ∧ e'.get 1 = some u := by
  have hlen := hu.len
  rw [List.length_map] at hlen
  have hil := row_lt hi
  have w1 : IntKind.wrap .i64 (2 * (ss.length : Int)) = 2 * (ss.length : Int) := wrap_i64 (by omega) (by omega)
  have w2 : IntKind.wrap .i64 (2 * (ss.length : Int) + 70) = 2 * (ss.length : Int) + 70 := wrap_i64 (by omega) (by omega)
  have hq' : ∀ cs, (st.put i cs).row q = some [.rsl 6 i 0 m m] := fun cs => (row_put_ne (Ne.symm hiq)).trans hq
  have hset : ∀ cs ds, (st.put i cs).setBlk i (.row ds) = some (st.put i ds) := fun cs ds => by rw [setBlk_put (by rw [put_floor]; exact hf), put_put]
  have hrow : ∀ cs, (st.put i cs).row i = some cs := fun cs => row_put_eq hil
  have hb := fun k st => den_behind hp (st := st) k
  generalize hL : cden pr (.loop _ _ _) _ _ = o
  obtain ⟨r, rfl, hQ⟩ : ∃ r, o = some r ∧ ∃ e', r = (.exit 0, e', st.put i (lrow ss (2 * ss.length + 70) ++ c.drop (6 * (2 * ss.length + 70)))) ∧ e'.get 0 = some (.ptr q 0) ∧ e'.get 1 = some u := by
    rw [← hL]
    refine loop_n (2 * ss.length + 70) (fun k => [(0, .ptr q 0), (1, u), (5, .d (.i .i64 k))]) (fun k => st.put i (lrow ss k ++ c.drop (6 * k))) ?_ (by simp) (by simp [lrow, ofDs, put_self hi])
    intro k hk
    rcases Nat.lt_or_ge k (2 * ss.length + 70) with h | h
    · have h1 : IntKind.wrap .i64 ((k : Int) + 1) = k + 1 := wrap_i64 (by omega) (by omega)
      have hlt : (k : Int) < 2 * (ss.length : Int) + 70 := by omega
      have hia := iaddr_row (size := 6) (sz := 6) (id := i) (off := 0) (cap := m) (n := m) (k := .i64) (i := k) (by omega)
      simp at hia
      have hdl : ((c.drop (6 * k)).take 6).length = 6 := by rw [List.length_take, List.length_drop]; omega
      have hsplit : c.drop (6 * k) = (c.drop (6 * k)).take 6 ++ c.drop (6 * (k + 1)) := by
        rw [show 6 * (k + 1) = 6 * k + 6 by omega, ← List.drop_drop, List.take_append_drop]
      have hl1 : (lrow ss k).length = k * 6 := by rw [lrow_len]; omega
      have e1 : lay (lrow ss k ++ c.drop (6 * k)) (k * 6) (ofDs (behindC k)) = lrow ss k ++ (ofDs (behindC k) ++ c.drop (6 * (k + 1))) := by
        rw [hsplit]
        exact lay_mid hl1 (by rw [hdl]; rfl)
      have hfit : k * 6 + 6 ≤ (lrow ss k ++ c.drop (6 * k)).length := by rw [List.length_append, hl1, List.length_drop]; omega
      obtain ⟨R, hR⟩ : ∃ R, R = lrow ss k ++ c.drop (6 * k) := ⟨_, rfl⟩
      obtain ⟨R1, hR1⟩ : ∃ R1, R1 = lrow ss k ++ (ofDs (behindC k) ++ c.drop (6 * (k + 1))) := ⟨_, rfl⟩
      rw [← hR, ← hR1] at e1
      rw [← hR] at hfit
      rw [← hR]
      rcases Nat.lt_or_ge k ss.length with hkn | hkn
      · obtain ⟨x, hx⟩ : ∃ x, ss[k]? = some x := ⟨_, List.getElem?_eq_getElem hkn⟩
        have hia2 := hu.iaddr (i := (k : Int)) (k := .i64) (by omega) (by simp; omega)
        have hld2 : ∀ st, loadV 6 true st (elP 6 u k 0) = some (.agg (ofDs x.cells)) := fun st => hu.load (st := st) (i := k) (o := 0) (n := 6) (agg := true) (el := x.cells) (by simp [hx]) (by omega) (by simp [Sym.cells])
        simp only [Int.toNat_natCast] at hia2
        have e2 : lay R1 (k * 6) (ofDs x.cells) = lrow ss (k + 1) ++ c.drop (6 * (k + 1)) := by
          rw [hR1, lay_mid hl1 (by rfl), lrow_succ, List.append_assoc]
          simp [lcell, hx]
        have hfit1 : k * 6 + 6 ≤ R1.length := by rw [← e1, lay_len' (by simp only [behindC, ofDs, List.length_map, List.length_cons, List.length_nil]; omega)]; exact hfit
        have hcl : (ofDs x.cells).length = 6 := rfl
        have hbl : (ofDs (behindC k)).length = 6 := rfl
        simp [F124_spindlelaw10_Desk_Lend_b0, hlen, w1, w2, hlt, hq', hrow, hset, hb, hia, hfit, e1, h1, hkn, hia2, hld2, e2, hfit1, hcl, hbl]
        omega
      · have e2 : R1 = lrow ss (k + 1) ++ c.drop (6 * (k + 1)) := by
          rw [hR1, lrow_succ, List.append_assoc]
          simp [lcell, List.getElem?_eq_none hkn]
        have hkn' : ¬ k < ss.length := by omega
        have hbl : (ofDs (behindC k)).length = 6 := rfl
        simp [F124_spindlelaw10_Desk_Lend_b0, hlen, w1, w2, hlt, hq', hrow, hset, hb, hia, hfit, e1, h1, hkn', hbl, e2]
        omega
    · obtain rfl : k = 2 * ss.length + 70 := by omega
      simp [F124_spindlelaw10_Desk_Lend_b0, hlen, w1, w2]
  obtain ⟨e', rfl, h1, h2⟩ := hQ
  exact ⟨e', rfl, h1, h2⟩
theorem den_LendR {q i m : Nat} {u : V} {c : List V} {ss : List Sym} (hf : st.floor = 0) (hu : SlD 6 u (ss.map Sym.cells)) (hn : ss.length ≤ 100000000000) (hq : st.row q = some [.rsl 6 i 0 m m]) (hiq : i ≠ q) (hi : st.row i = some c) (hc : c.length = 6 * m) (hm : 2 * ss.length + 70 ≤ m) :
    den pr 124 [.ptr q 0, u] st = some (.rsl 6 i 0 ss.length (2 * ss.length + 70), st.put i (lrow ss (2 * ss.length + 70) ++ c.drop (6 * (2 * ss.length + 70)))) := by
  have hlen := hu.len
  rw [List.length_map] at hlen
  have w1 : IntKind.wrap .i64 (2 * (ss.length : Int)) = 2 * (ss.length : Int) := wrap_i64 (by omega) (by omega)
  have w2 : IntKind.wrap .i64 (2 * (ss.length : Int) + 70) = 2 * (ss.length : Int) + 70 := wrap_i64 (by omega) (by omega)
  have hlt : ¬ ((m : Int) < 2 * (ss.length : Int) + 70) := by omega
  have hql := row_lt hq
  obtain ⟨e', hl, g0, g1⟩ := den_LendL hp hf hu hn hq hiq hi hc hm (e := [])
  have hq' : ∀ cs, (st.put i cs).row q = some [.rsl 6 i 0 m m] := fun cs => (row_put_ne (Ne.symm hiq)).trans hq
  have hslc := slc_lent i hm
  rw [den_fn (hp.at 1 rfl) rfl rfl, start_raw _ rfl]
  simp [F124_spindlelaw10_Desk_Lend, hq, hlen, w1, w2, hlt, hl, g0, g1, hq', hslc]
theorem den_Lend {q : Nat} {id : Option Nat} {u : V} {ss : List Sym} (h : DeskI st q id) (hf : st.floor = 0) (hu : SlD 6 u (ss.map Sym.cells)) (hn : ss.length ≤ 100000000000) :
    ∃ i s', den pr 124 [.ptr q 0, u] st = some (.rsl 6 i 0 ss.length (2 * ss.length + 70), s') ∧ LentI s' q i ss ∧ Gr st s' (fun r => r = q ∨ id = some r) (fun _ => True) ∧ (id = some i ∨ st.heap.length ≤ i) := by
  obtain ⟨hql, h⟩ := h
  have hlen := hu.len
  rw [List.length_map] at hlen
  have hdr : ∀ {c : List V} {m : Nat}, c.length = 6 * m → 2 * ss.length + 70 ≤ m → (lrow ss (2 * ss.length + 70) ++ c.drop (6 * (2 * ss.length + 70))).length = 6 * m := fun hc hm => by
    rw [List.length_append, lrow_len, List.length_drop]; omega
  by_cases hbig : ∃ i m c, id = some i ∧ i ≠ q ∧ st.row q = some [.rsl 6 i 0 m m] ∧ st.row i = some c ∧ c.length = 6 * m ∧ 2 * ss.length + 70 ≤ m
  · obtain ⟨i, m, c, rfl, hiq, hq, hi, hc, hm⟩ := hbig
    refine ⟨i, _, den_LendR hp hf hu hn hq hiq hi hc hm, ⟨hiq, m, _, (row_put_ne (Ne.symm hiq)).trans hq, hm, row_put_eq (row_lt hi), hdr hc hm⟩, .put hi ?_ (.inr rfl) fun _ _ _ => .inr trivial, .inl rfl⟩
    rw [hdr hc hm, hc]
  -- a new one
  obtain ⟨x, k, hx, hxl, hk⟩ : ∃ x k, st.row q = some [x] ∧ lenV x = some k ∧ k < 2 * ss.length + 70 := by
    rcases h with ⟨rfl, hq⟩ | ⟨i, m, c, rfl, hiq, hq, hi, hc⟩
    · exact ⟨_, 0, hq, rfl, by omega⟩
    · refine ⟨_, m, hq, rfl, Nat.lt_of_not_le fun hm => hbig ⟨i, m, c, rfl, hiq, hq, hi, hc, hm⟩⟩
  have w1 : IntKind.wrap .i64 (2 * (ss.length : Int)) = 2 * (ss.length : Int) := wrap_i64 (by omega) (by omega)
  have w2 : IntKind.wrap .i64 (2 * (ss.length : Int) + 70) = 2 * (ss.length : Int) + 70 := wrap_i64 (by omega) (by omega)
  have w3 : IntKind.wrap .i64 (4 * (ss.length : Int)) = 4 * (ss.length : Int) := wrap_i64 (by omega) (by omega)
  have w4 : IntKind.wrap .i64 (4 * (ss.length : Int) + 200) = 4 * (ss.length : Int) + 200 := wrap_i64 (by omega) (by omega)
  have hlt : (k : Int) < 2 * (ss.length : Int) + 70 := by omega
  obtain ⟨M, hM⟩ : ∃ M, M = 4 * ss.length + 200 := ⟨_, rfl⟩
  have hMc : (4 * (ss.length : Int) + 200) = (M : Int) := by omega
  have hr : room 48 (.d (.i .i64 (M : Int))) = some M := by
    simp [room]
    omega
  rw [hMc] at w4
  obtain ⟨Z, hZ⟩ : ∃ Z : List V, Z = ofDs (reps M [.i .i64 0, .i .i64 0, .i .i64 0, .i .i64 0, .i .i64 0, .i .i64 0]) := ⟨_, rfl⟩
  have hZl : Z.length = 6 * M := by rw [hZ, ofDs, List.length_map, reps_len]; simp; omega
  obtain ⟨s1, hs1⟩ : ∃ s1, s1 = (st.push (.row Z)).put q [.rsl 6 st.heap.length 0 M M] := ⟨_, rfl⟩
  have hset : ∀ ds, (st.push (.row Z)).setBlk q (.row ds) = some ((st.push (.row Z)).put q ds) := fun ds => setBlk_put hf
  have hqp : (st.push (.row Z)).row q = some [x] := (row_old hql).trans hx
  have hq1 : s1.row q = some [.rsl 6 st.heap.length 0 M M] := by rw [hs1]; exact row_put_eq (by simp; omega)
  have hne : st.heap.length ≠ q := by omega
  have hi1 : s1.row st.heap.length = some Z := by rw [hs1, row_put_ne hne]; exact row_push_new rfl
  have hf1 : s1.floor = 0 := by rw [hs1]; exact hf
  obtain ⟨e', hl, g0, g1⟩ := den_LendL hp hf1 hu hn hq1 hne hi1 hZl (by omega) (e := [])
  have hq' : ∀ cs, (s1.put st.heap.length cs).row q = some [.rsl 6 st.heap.length 0 M M] := fun cs => (row_put_ne (Ne.symm hne)).trans hq1
  have hcs : (V.rsl 6 st.heap.length 0 M M).cs = [.rsl 6 st.heap.length 0 M M] := rfl
  have hslc := slc_lent st.heap.length (m := M) (n := ss.length) (by omega)
  refine ⟨st.heap.length, s1.put st.heap.length (lrow ss (2 * ss.length + 70) ++ Z.drop (6 * (2 * ss.length + 70))), ?_, ⟨hne, M, _, hq' _, by omega, row_put_eq (row_lt hi1), hdr hZl (by omega)⟩, ?_, .inr (Nat.le_refl _)⟩
  · rw [den_fn (hp.at 1 rfl) rfl rfl, start_raw _ rfl]
    simp [F124_spindlelaw10_Desk_Lend, hx, hxl, hlen, w1, w2, w3, hMc, w4, hr, hlt, ← hZ, hset, hqp, lay, hcs, ← hs1, hl, g0, g1, hq', hslc]
  · have g01 : Gr st s1 (fun r => r = q ∨ id = some r ∨ st.heap.length ≤ r) (fun _ => True) := by
      rw [hs1]
      exact (Gr.push _).trans (.put hqp rfl (.inl rfl) fun _ _ _ => .inr trivial)
    refine (g01.trans (.put hi1 (by rw [hdr hZl (by omega), hZl]) (.inr (.inr (Nat.le_refl _))) fun _ _ _ => .inr trivial)).mono (fun r hr e => ?_) fun _ _ => trivial
    rcases e with e | e | e
    · exact .inl e
    · exact .inr e
    · omega
theorem den_Back {q i : Nat} {u : V} {ss : List Sym} (h : LentI st q i ss) (hu : SlD 6 u (ss.map Sym.cells)) (hn : ss.length ≤ 100000000000) : den pr 125 [.ptr q 0, u] st = some (.d (.b true), st) := by
  obtain ⟨hiq, m, tail, hq, hm, hi, hc⟩ := h
  have hlen := hu.len
  rw [List.length_map] at hlen
  have w1 : IntKind.wrap .i64 (2 * (ss.length : Int)) = 2 * (ss.length : Int) := wrap_i64 (by omega) (by omega)
  have w2 : IntKind.wrap .i64 (2 * (ss.length : Int) + 70) = 2 * (ss.length : Int) + 70 := wrap_i64 (by omega) (by omega)
  have hb := fun k st => den_behind hp (st := st) k
  have hget : ∀ k, k < 2 * ss.length + 70 → ((lrow ss (2 * ss.length + 70) ++ tail).drop (k * 6)).take 6 = ofDs (lcell ss k) := by
    intro k hk
    exact lrow_get ss tail hk
  obtain ⟨C, hC⟩ : ∃ C, C = lrow ss (2 * ss.length + 70) ++ tail := ⟨_, rfl⟩
  rw [← hC] at hi hc hget
  rw [den_fn (hp.at 2 rfl) rfl rfl, start_raw _ rfl]
  simp [F125_spindlelaw10_Desk_Back]
  generalize hL : cden pr (.loop _ _ _) _ _ = o
  obtain ⟨r, rfl, hQ⟩ : ∃ r, o = some r ∧ ∃ e', r = (.exit 0, e', st) := by
    rw [← hL]
    refine loop_n (2 * ss.length + 70) (fun k => [(0, .ptr q 0), (1, u), (5, .d (.i .i64 k))]) (fun _ => st) ?_ (by simp) rfl
    intro k hk
    rcases Nat.lt_or_ge k (2 * ss.length + 70) with h | h
    · have h1 : IntKind.wrap .i64 ((k : Int) + 1) = k + 1 := wrap_i64 (by omega) (by omega)
      have hlt : (k : Int) < 2 * (ss.length : Int) + 70 := by omega
      have hia := iaddr_row (size := 6) (sz := 6) (id := i) (off := 0) (cap := m) (n := m) (k := .i64) (i := k) (by omega)
      simp at hia
      have hfit : k * 6 + 6 ≤ C.length := by omega
      have hg := hget k h
      rcases Nat.lt_or_ge k ss.length with hkn | hkn
      · obtain ⟨x, hx⟩ : ∃ x, ss[k]? = some x := ⟨_, List.getElem?_eq_getElem hkn⟩
        have hia2 := hu.iaddr (i := (k : Int)) (k := .i64) (by omega) (by simp; omega)
        have hld2 : ∀ st, loadV 6 true st (elP 6 u k 0) = some (.agg (ofDs x.cells)) := fun st => hu.load (st := st) (i := k) (o := 0) (n := 6) (agg := true) (el := x.cells) (by simp [hx]) (by omega) (by simp [Sym.cells])
        simp only [Int.toNat_natCast] at hia2
        have hlc : lcell ss k = x.cells := by simp [lcell, hx]
        rw [hlc] at hg
        have heq := six_eq (x := x.cells) ⟨_, _, _, _, _, _, rfl⟩
        have hkn' : ¬ ss.length ≤ k := by omega
        simp [F125_spindlelaw10_Desk_Back_b0, hlen, w1, w2, hlt, hq, hi, hia, hfit, hg, hkn, hia2, hld2, heq, hkn', h1]
        omega
      · have hlc : lcell ss k = behindC k := by simp [lcell, List.getElem?_eq_none hkn]
        rw [hlc] at hg
        have hkn' : ¬ k < ss.length := by omega
        have heq := six_eq (x := behindC k) ⟨_, _, _, _, _, _, rfl⟩
        simp [F125_spindlelaw10_Desk_Back_b0, hlen, w1, w2, hlt, hq, hi, hia, hfit, hg, hkn, hkn', hb, heq, h1]
        omega
    · obtain rfl : k = 2 * ss.length + 70 := by omega
      simp [F125_spindlelaw10_Desk_Back_b0, hlen, w1, w2]
  obtain ⟨e', rfl⟩ := hQ
  simp
theorem callW_turned {u : V} {ss : List Sym} (hu : SlD 6 u (ss.map Sym.cells)) (hn : ss.length ≤ 100000000000) (hr : ∀ x ∈ ss, x.value ≤ 9223372036854775807 ∧ x.size ≤ 9223372036854775807) : CallW pr 121 [u] st fun v s => s = st ∧ ∃ (ts : List Sym) (nz : Bool), v = .d (.sl ts.length nz (ts.map Sym.cells).flatten) ∧ ts.length = ss.length ∧ ∀ x ∈ ts, x.value ≤ 9223372036854775807 ∧ x.size ≤ 9223372036854775807 := by
  obtain ⟨hel, nz0, rfl⟩ := hu
  have hfl : ((ss.map Sym.cells).flatten).length = ss.length * 6 := by rw [flatten_len hel, List.length_map]
  have hlm : (ss.map Sym.cells).length = ss.length := List.length_map _
  rw [hlm]
  obtain ⟨F, hF⟩ : ∃ F, F = (ss.map Sym.cells).flatten := ⟨_, rfl⟩
  rw [← hF] at hfl ⊢
  refine .run0 (fun _ => false) (hp.at 3 rfl) (by simp; rfl) rfl rfl (codeC_of ?_)
  simp [F121_spindlelaw10_turned, ofDs, reps, fillV]
  refine appW_LR (cells := []) (n := 0) (j := some 0) rfl ⟨rfl, .inr ⟨0, 0, [], rfl, rfl, Nat.le_refl _, rfl, rfl⟩⟩ (vwV_data6 _ _ _ _) (by rw [ofDs, List.length_map, hfl]) rfl (by omega) (by omega) ?_
  intro s1 v1 j1 hl1 g1 _
  have hl1n := hl1.len
  simp only [Nat.zero_add] at hl1 hl1n
  simp only [List.nil_append] at hl1
  rcases Nat.eq_zero_or_pos ss.length with h0 | hpos
  · have hn0 : ¬ (0 < ss.length) := by omega
    obtain ⟨nz, he⟩ := hl1.esc
    simp [hl1n, hn0, he]
    refine ⟨[], ?_⟩
    have : F = [] := List.eq_nil_of_length_eq_zero (by omega)
    cases nz <;> simp [h0, this]
  obtain ⟨k, hk⟩ : ∃ k, k = ss.length / 2 := ⟨_, rfl⟩
  have hkl : k < ss.length := by omega
  obtain ⟨x, hx⟩ : ∃ x, ss[k]? = some x := ⟨_, List.getElem?_eq_getElem hkl⟩
  have hsp : ss = ss.take k ++ x :: ss.drop (k + 1) := by
    rw [← (List.getElem?_eq_some_iff.1 hx).2, List.getElem_cons_drop, List.take_append_drop]
  have hdv : (ss.length : Int).tdiv 2 = (k : Int) := by rw [hk]; simp [Int.ofNat_tdiv]
  have wk : IntKind.wrap .i64 (k : Int) = k := wrap_i64 (by omega) (by omega)
  obtain ⟨jq, hj0, hia⟩ := hl1.iaddr (k := .i64) hkl
  obtain ⟨h00, ⟨_, _, hz⟩ | ⟨j0, cap, tail, hj, hv1, hcap, hrow, htl⟩⟩ := hl1
  · omega
  rw [hj] at hj0
  obtain rfl := Option.some.inj hj0
  -- the symbol that is turned
  obtain ⟨z, hz, hzl⟩ : ∃ z, bitI .xor .i64 x.value 8 = some (.i .i64 z) ∧ z ≤ 9223372036854775807 := by
    refine ⟨_, rfl, ?_⟩
    generalize ((BitVec.ofInt IntKind.i64.bits x.value ^^^ BitVec.ofInt IntKind.i64.bits 8).toNat : Int) = y
    simp only [IntKind.wrap, IntKind.bits, IntKind.signed]
    simp
    omega
  obtain ⟨ts, hts⟩ : ∃ ts, ts = ss.take k ++ { x with value := z } :: ss.drop (k + 1) := ⟨_, rfl⟩
  obtain ⟨pre, hpre⟩ : ∃ pre : List D, pre = ((ss.take k).map Sym.cells).flatten ++ [.i .i64 x.name, .i .i64 x.binding, .i .i64 x.kind, .i .i64 x.sec] := ⟨_, rfl⟩
  obtain ⟨rest, hrest⟩ : ∃ rest : List D, rest = .i .i64 x.size :: ((ss.drop (k + 1)).map Sym.cells).flatten := ⟨_, rfl⟩
  have hFp : F = pre ++ (.i .i64 x.value :: rest) := by rw [hF, hsp]; simp [hpre, hrest, Sym.cells]
  have hFz : (ts.map Sym.cells).flatten = pre ++ (.i .i64 z :: rest) := by rw [hts]; simp [hpre, hrest, Sym.cells]
  have hpl : (ofDs pre).length = k * 6 + 4 := by
    rw [hpre, ofDs, List.length_map, List.length_append, flatten_len (sz := 6) (fun y hy => by simp only [List.mem_map] at hy; obtain ⟨z, _, rfl⟩ := hy; rfl), List.length_map, List.length_take]
    simp
    omega
  have hrow2 : ofDs F ++ tail = ofDs pre ++ ([V.d (.i .i64 x.value)] ++ (ofDs rest ++ tail)) := by rw [hFp]; simp [ofDs]
  rw [hrow2] at hrow
  have hdt : ((ofDs pre ++ ([V.d (.i .i64 x.value)] ++ (ofDs rest ++ tail))).drop (k * 6 + 4)).take 1 = [.d (.i .i64 x.value)] := by
    rw [List.drop_left' hpl]
    rfl
  have hfit : k * 6 + 4 + 1 ≤ (ofDs pre ++ ([V.d (.i .i64 x.value)] ++ (ofDs rest ++ tail))).length := by rw [List.length_append, hpl]; simp
  have hlay : lay (ofDs pre ++ ([V.d (.i .i64 x.value)] ++ (ofDs rest ++ tail))) (k * 6 + 4) [.d (.i .i64 z)] = ofDs pre ++ ([V.d (.i .i64 z)] ++ (ofDs rest ++ tail)) := lay_mid hpl rfl
  obtain ⟨R, hR⟩ : ∃ R, R = ofDs pre ++ ([V.d (.i .i64 x.value)] ++ (ofDs rest ++ tail)) := ⟨_, rfl⟩
  rw [← hR] at hrow hdt hfit hlay
  have hf1 : s1.floor = 0 := g1.floor
  have hset : ∀ cs, s1.setBlk j0 (.row cs) = some (s1.put j0 cs) := fun cs => setBlk_put hf1
  have hl2 : LR (s1.put j0 (ofDs pre ++ ([V.d (.i .i64 z)] ++ (ofDs rest ++ tail)))) 6 v1 ss.length (ofDs (ts.map Sym.cells).flatten) (some j0) := by
    refine ⟨?_, .inr ⟨j0, cap, tail, rfl, hv1, hcap, ?_, htl⟩⟩
    · rw [hFz, ← h00, hFp]
      simp [ofDs]
    · rw [row_put_eq (row_lt hrow), hFz]
      simp [ofDs]
  obtain ⟨nz, he⟩ := hl2.esc
  have htl : ts.length = ss.length := by
    rw [hts, List.length_append, List.length_cons, List.length_take, List.length_drop]
    omega
  simp [hl1n, hpos, hdv, wk, hia, hrow, hdt, hfit, hz, hset, hlay]
  refine ⟨_, he, ts, by cases nz <;> simp [htl], htl, fun y hy => ?_⟩
  rw [hts] at hy
  rcases List.mem_append.1 hy with hy | hy
  · exact hr y (List.mem_of_mem_take hy)
  · rcases List.mem_cons.1 hy with rfl | hy
    · exact ⟨hzl, (hr x (List.mem_of_getElem? hx)).2⟩
    · exact hr y (List.mem_of_mem_drop hy)
end
end Go.Sh
