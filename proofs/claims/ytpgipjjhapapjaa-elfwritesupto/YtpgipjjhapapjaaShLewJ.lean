/- The rack: what was lent is given back. -/
import Derived.Test.YtpgipjjhapapjaaShLewI
import Derived.Test.YtpgipjjhapapjaaShLelf1
set_option linter.unusedVariables false
set_option linter.unusedSimpArgs false
set_option linter.unusedSectionVars false
namespace Go.Sh
theorem seeL_app {f : V → Option D} : ∀ {a b : List V} {x y : List D}, seeL f a = some x → seeL f b = some y → seeL f (a ++ b) = some (x ++ y)
  | [], b, x, y, h1, h2 => by
    simp only [seeL, Option.some.injEq] at h1
    subst h1
    exact h2
  | v :: a, b, x, y, h1, h2 => by
    simp only [seeL] at h1
    split at h1
    · rename_i d ds e1 e2
      obtain rfl := Option.some.inj h1
      have ih := seeL_app e2 h2
      simp only [List.cons_append, seeL, e1, ih]
    · cases h1
/-- The list that was lent, seen as data. -/
theorem LentK.see {s : St} {p r : Nat} {k : Rk} {ss : List Sec} (h : LentK s p k ss r) (cap m : Nat) : see1 s (m + 2) (.rsl 8 r 0 ss.length cap) = some (secV (ss.map Sec.cp) true) := by
  have hf8 : ∀ m, m < k.nL → (lnC ss k.lb m).length = 8 := fun m _ => lnC_len _ _ _
  have hlen := flatN_len hf8
  have hn := h.n.1
  have htk : (flatN k.nL (lnC ss k.lb)).take (ss.length * 8) = flatN ss.length (lnC ss k.lb) := by
    have := take_flat (t := []) hf8 (i := ss.length) (by omega)
    rwa [List.append_nil] at this
  have key : ∀ i, i ≤ ss.length → seeL (seeD s (m + 1)) (flatN i (lnC ss k.lb)) = some (((ss.take i).map fun x => x.cp.cells).flatten) := by
    intro i
    induction i with
    | zero => intro _; rfl
    | succ i ih =>
      intro hi
      have hx : ss[i]? = some ss[i] := List.getElem?_eq_getElem (by omega)
      have hs : flatN (i + 1) (lnC ss k.lb) = flatN i (lnC ss k.lb) ++ lnC ss k.lb i := by simp [flatN, List.range_succ]
      rw [hs, take_snoc hx, List.map_append, List.flatten_append]
      refine seeL_app (ih (by omega)) ?_
      obtain ⟨z, c, b1, b2, b3⟩ := h.bufs i _ hx
      have e1 : lnC ss k.lb i = lnX ss[i] z := by
        unfold lnC rlOf
        rw [hx, b1]
        rfl
      have e2 : seeD s (m + 1) (.rsl 1 z 0 (ss[i]).data.length (2 * (ss[i]).data.length + 70)) = some (.sl (ss[i]).data.length true (byteCells (ss[i]).data)) := by
        have q : (ss[i]).data.length ≤ (wrow (lcell (ss[i]).data) c (2 * (ss[i]).data.length + 70)).length := by rw [wrow_len b3]; omega
        simp only [seeD, b2, Nat.zero_add, Nat.mul_one, q, if_true, List.drop_zero]
        rw [wrow_take (by omega), lcell_bytes, seeL_ofDs]
        rfl
      rw [e1]
      simp only [lnX, seeL, e2]
      simp [seeD, Sec.cp, Sec.cells]
  have q : ss.length * 8 ≤ (flatN k.nL (lnC ss k.lb)).length := by rw [hlen]; omega
  simp only [see1, seeD, h.list, Nat.zero_add, q, if_true, List.drop_zero, htk]
  rw [key ss.length (Nat.le_refl _), List.take_length]
  simp [secV, List.map_map]
  rfl
def wBk (f : Nat) : Bool := f == 179
theorem bh_sec (m : Nat) : ofDs (bhC m) = ofDs (Sec.cells ⟨[98, 101, 104, 105, 110, 100], (m : Int) + 1, 0, 0, 0, 1, 0, [], false⟩) := rfl
section
variable {pr : Prog} (hk : Sub rkFns pr) (hd : Sub lendFns pr) (hr : Sub ref9bFns pr)
include hk hd hr
theorem callW_rsame {s : St} {p r : Nat} {k : Rk} {u : V} {ss : List Sec} (h : LentK s p k ss r) (hu : SlD 8 u (ss.map Sec.cells)) (hn : ss.length ≤ 1048576) (cap : Nat) : CallW pr 179 [.rsl 8 r 0 ss.length cap, u] s fun v s' => s' = s ∧ v = .d (.b true) := by
  have hden := den_Sames9b hr (st := st0) (secV_c (ss.map Sec.cp) true) hu.c (by rw [List.length_map]; omega) (by omega)
  have hkk : (ss.map Sec.cp).map Sec.key = ss.map Sec.key := by rw [List.map_map]; rfl
  rw [decide_eq_true hkk] at hden
  obtain ⟨_, nz, rfl⟩ := hu
  refine .seen (k := 2) (as := [secV (ss.map Sec.cp) true, _]) (seeA_two (h.see cap 0) rfl) (CallW.of_den hden ?_)
  simp [FreshR, FreshV, D.flat, pushO, V.flat]
theorem callW_rback {s : St} {p r : Nat} {k : Rk} {u : V} {ss : List Sec} (h : LentK s p k ss r) (hu : SlD 8 u (ss.map Sec.cells)) (hn : ss.length ≤ 1048576) (hdl : ∀ x ∈ ss, x.data.length ≤ 8589934592) :
    CallW pr 354 [.ptr p 0, u] s fun v s' => v = .d (.b true) ∧ RkI s' p k ∧ RkF s s' p k k := by
  refine .run wBk (hk.at 1 rfl) rfl ?_
  rw [start_raw _ rfl]
  refine codeC_of ?_
  have hlen := hu.len
  rw [List.length_map] at hlen
  have hrow := h.rk.row
  rw [h.L] at hrow
  have hnL := h.n.1
  have hsm := h.rk.small
  have hsl : slcV 8 (.rsl 8 r 0 k.nL k.nL) none (some (.d (.i .i64 (ss.length : Int)))) none = some (.rsl 8 r 0 ss.length k.nL) := by
    have b1 : (0 : Int) ≤ ss.length ∧ (ss.length : Int) ≤ k.nL := by omega
    simp only [slcV, if_true, bnds, bnd, intV, b1, and_self, Int.toNat_natCast, Option.map_some, Nat.zero_mul, Nat.add_zero, Nat.sub_zero]
  have hf8 : ∀ m, m < k.nL → (lnC ss k.lb m).length = 8 := fun m _ => lnC_len _ _ _
  simp [F354_spindlelaw9_Rack_back, hrow, hlen, hsl, wBk]
  refine (callW_rsame hk hd hr h hu hn k.nL).mono ?_
  rintro v s' ⟨rfl, rfl⟩
  simp [hlen]
  -- what stands behind
  have b0 : ∃ rr, cden pr (.loop [0, 1, 5, 6] false F354_spindlelaw9_Rack_back_b0) [(0, .ptr p 0), (1, u), (5, .d (.b true)), (6, .d (.i .i64 (ss.length : Nat)))] s' = some rr ∧ ∃ e, rr = (.exit 0, e, s') ∧ e.get 0 = some (.ptr p 0) ∧ e.get 1 = some u ∧ e.get 5 = some (.d (.b true)) := by
    refine loop_n (k.nL - ss.length) (fun i => [(0, .ptr p 0), (1, u), (5, .d (.b true)), (6, .d (.i .i64 ((ss.length : Int) + (i : Int))))]) (fun _ => s') ?_ (by simp) rfl
    intro i hi
    rcases Nat.lt_or_ge i (k.nL - ss.length) with hlt | hge
    · have hil : ss.length + i < k.nL := by omega
      have hia : iaddrV 8 (.rsl 8 r 0 k.nL k.nL) (.d (.i .i64 ((ss.length + i : Nat) : Int))) = some (.ptr r ((ss.length + i) * 8)) := by rw [iaddr_row hil, Nat.zero_add]
      have hg := get_flat (t := []) hf8 hil
      rw [List.append_nil] at hg
      have hb : lnC ss k.lb (ss.length + i) = ofDs (bhC (ss.length + i)) := by unfold lnC; rw [List.getElem?_eq_none (by omega)]
      have hld : loadV 8 true s' (.ptr r ((ss.length + i) * 8)) = some (.agg (ofDs (bhC (ss.length + i)))) := by
        simp only [loadV_ptr, h.list]
        rw [if_pos (by rw [flatN_len hf8]; omega), hg, hb]
        rfl
      have hsame := fun st => den_Same9b hr (st := st) ⟨[98, 101, 104, 105, 110, 100], ((ss.length + i : Nat) : Int) + 1, 0, 0, 0, 1, 0, [], false⟩ ⟨[98, 101, 104, 105, 110, 100], ((ss.length + i : Nat) : Int) + 1, 0, 0, 0, 1, 0, [], false⟩
      rw [decide_eq_true rfl, ← bh_sec] at hsame
      have w1 : IntKind.wrap .i64 ((ss.length : Int) + (i : Int) + 1) = (ss.length : Int) + ((i : Int) + 1) := by rw [wrap_i64 (by omega) (by omega)]; omega
      have hlt' : (ss.length : Int) + (i : Int) < k.nL := by omega
      have hM : ((ss.length + i : Nat) : Int) = (ss.length : Int) + (i : Int) := by omega
      obtain ⟨P, hP⟩ : ∃ P, P = V.ptr r ((ss.length + i) * 8) := ⟨_, rfl⟩
      obtain ⟨X, hX⟩ : ∃ X, X = ofDs (bhC (ss.length + i)) := ⟨_, rfl⟩
      have hX2 : X = [.d (.s [98, 101, 104, 105, 110, 100]), .d (.i .i64 ((ss.length : Int) + ((i : Int) + 1))), .d (.i .i64 0), .d (.i .i64 0), .d (.i .i64 0), .d (.i .i64 1), .d (.i .i64 0), .d (.sl 0 false [])] := by
        rw [hX, ← Int.add_assoc, ← hM]
        rfl
      rw [← hP] at hia hld
      rw [← hX] at hld hsame
      rw [hX2] at hsame hld
      rw [hM] at hia
      simp [F354_spindlelaw9_Rack_back_b0, hrow, hlt', hlt, hia, hld, hsame, w1, fillV, lay, reps, ofDs]
    · obtain rfl : i = k.nL - ss.length := by omega
      have e : ss.length + (k.nL - ss.length) = k.nL := by omega
      have e2 : ¬ (ss.length : Int) + ((k.nL - ss.length : Nat) : Int) < k.nL := by omega
      simp [F354_spindlelaw9_Rack_back_b0, hrow, e2]
  obtain ⟨_, b1, e1, rfl, g0, g1, g5⟩ := b0
  refine CodeW.of_ex ⟨_, b1, ?_⟩
  simp [g0, g1, g5]
  have hne1 : ∀ a q, k.lab p a = some q → a ≠ 1 → q ≠ r := fun a q e hn e2 => hn (h.rk.sep a 1 q e (by rw [e2]; exact h.jL))
  have b2 : ∃ rr, cden pr (.loop [0, 1, 5, 7] false F354_spindlelaw9_Rack_back_b1) [(0, .ptr p 0), (1, u), (5, .d (.b true)), (7, .d (.i .i64 0))] s' = some rr ∧ ∃ e s2, rr = (.exit 2, e, s2) ∧ e.get 5 = some (.d (.b true)) ∧ RkI s2 p k ∧ RkF s' s2 p k k := by
    obtain ⟨BF, hBF⟩ : ∃ BF : Nat → St → Prop, ∀ i s, BF i s ↔ ∀ (m : Nat) x, i ≤ m → ss[m]? = some x → ∃ r c, k.lb[m]? = some (.rsl 1 r 0 (wrow (lcell x.data) c (2 * x.data.length + 70)).length (wrow (lcell x.data) c (2 * x.data.length + 70)).length, (x.data.length : Int), some r) ∧ s.row r = some (wrow (lcell x.data) c (2 * x.data.length + 70)) ∧ 2 * x.data.length + 70 ≤ c.length := ⟨_, fun _ _ => Iff.rfl⟩
    obtain ⟨J, hJ⟩ : ∃ J : Nat → Env → St → Prop, ∀ n' e s, J n' e s ↔ ∃ i, i ≤ ss.length ∧ n' = ss.length - i ∧ e = [(0, .ptr p 0), (1, u), (5, .d (.b true)), (7, .d (.i .i64 (i : Nat)))] ∧ RkI s p k ∧ RkF s' s p k k ∧ BF i s := ⟨_, fun _ _ _ => Iff.rfl⟩
    refine loop_j J ?_ (n := ss.length) ((hJ _ _ _).2 ⟨0, Nat.zero_le _, rfl, by simp, h.rk, .refl _ _ _, (hBF _ _).2 fun m x _ hx => h.bufs m x hx⟩)
    intro n' e s hh
    obtain ⟨i, hi, rfl, rfl, q1, qF, hbf⟩ := (hJ _ _ _).1 hh
    rcases Nat.lt_or_ge i ss.length with hlt | hge
    rotate_left
    · obtain rfl : i = ss.length := by omega
      simp [F354_spindlelaw9_Rack_back_b1, hlen]
      exact ⟨_, s, ⟨rfl, rfl⟩, rfl, q1, qF⟩
    obtain ⟨x, hx⟩ : ∃ x, ss[i]? = some x := ⟨_, List.getElem?_eq_getElem hlt⟩
    have hlt' : (i : Int) < ss.length := by omega
    have w1 : IntKind.wrap .i64 ((i : Int) + 1) = i + 1 := wrap_i64 (by omega) (by omega)
    have hiu := hu.iaddr (i := (i : Int)) (k := .i64) (by omega) (by simp; omega)
    simp only [Int.toNat_natCast] at hiu
    have hfu : faddrV 7 (elP 8 u i 0) = some (elP 8 u i 7) := hu.faddr
    have hld7 : ∀ s, loadV 1 false s (elP 8 u i 7) = some (bsl x.nz x.data) := fun s => by
      rw [hu.load (el := x.cells) (by simp [hx]) (by omega) (by omega)]
      rfl
    obtain ⟨z, c, b1, b2, b3⟩ := (hBF _ _).1 hbf i x (Nat.le_refl _) hx
    have hWl : (wrow (lcell x.data) c (2 * x.data.length + 70)).length = c.length := wrow_len b3
    rw [hWl] at b1
    have hlbi : i < k.lb.length := (List.getElem?_eq_some_iff.1 b1).1
    obtain ⟨jd, hjd, hDia⟩ := q1.Dr.iaddr (i := i) (k := .i64) hlbi
    obtain ⟨tail, htail⟩ := q1.Dr.inRow hjd
    have htail' : s.row jd = some (lbC (k.lb.take i) ++ .rsl 1 z 0 c.length c.length :: .d (.i .i64 x.data.length) :: (lbC (k.lb.drop (i + 1)) ++ tail)) := by
      rw [htail, lbC_split b1]
      simp
    have hAl : (lbC (k.lb.take i)).length = i * 2 := by rw [lbC_len, List.length_take]; omega
    have hlz : k.lab p (i + 3) = some z := by simp [Rk.lab, b1]
    have hzd : z ≠ jd := fun e => by have := q1.sep (i + 3) 2 z hlz (by rw [e]; exact hjd); omega
    obtain ⟨s2, l1, l2, l3⟩ := den_BackO hd (nz := x.nz) (⟨q1.fl, htail', b2, b3, hzd⟩ : LentO s jd (lbC (k.lb.take i)) (lbC (k.lb.drop (i + 1)) ++ tail) z x.data c) (hdl x (List.mem_of_getElem? hx))
    obtain ⟨l4, l5, l6⟩ := l2
    obtain ⟨z', c', e1, e2, e3, _⟩ : ∃ z' c', some z = some z' ∧ V.rsl 1 z 0 c.length c.length = .rsl 1 z' 0 c'.length c'.length ∧ s2.row z' = some c' ∧ z' ≠ jd := by
      rcases l6 with ⟨e, _⟩ | e
      · cases e
      · exact e
    obtain rfl := Option.some.inj e1
    have hcc : c'.length = c.length := by simp only [V.rsl.injEq] at e2; exact e2.2.2.2.1.symm
    obtain ⟨m1, m2⟩ := q1.setB (s1 := s2) (r := z) (N' := (x.data.length : Int)) (c := c') b1 hjd htail (by rw [hcc]; exact l5) e3 (by
      have := q1.B _ (List.mem_of_getElem? b1)
      rcases this with ⟨e, _⟩ | ⟨z2, c2, e, _, f1, f2⟩
      · cases e
      · obtain rfl := Option.some.inj e
        rw [b2] at f1
        have := Option.some.inj f1
        rw [← this] at f2
        omega) (.inl rfl) (l3.kr.mono fun i _ e => .inr (by rw [e]))
    have hset : k.lb.set i (.rsl 1 z 0 c'.length c'.length, (x.data.length : Int), some z) = k.lb := by
      rw [hcc]
      apply List.ext_getElem?
      intro m
      rw [List.getElem?_set]
      by_cases hm : i = m
      · subst hm; rw [if_pos rfl, if_pos hlbi, b1]
      · rw [if_neg hm]
    rw [hset] at m1 m2
    have hmine : ∀ (c0 : List V), s2.row r = some c0 → c0.length = k.nL * 8 → ∃ s3, storeV 8 s2 (.ptr r (i * 8)) (.agg [.d (.s [109, 105, 110, 101]), .d (.i .i64 0), .d (.i .i64 0), .d (.i .i64 0), .d (.i .i64 0), .d (.i .i64 0), .d (.i .i64 0), .d (.sl 0 false [])]) = some s3 ∧ RkI s3 p k ∧ RkF s2 s3 p k k ∧ ∀ q, q ≠ r → s3.row q = s2.row q := by
      intro c0 h1 h2
      have hl2 : (lay c0 (i * 8) [V.d (.s [109, 105, 110, 101]), .d (.i .i64 0), .d (.i .i64 0), .d (.i .i64 0), .d (.i .i64 0), .d (.i .i64 0), .d (.i .i64 0), .d (.sl 0 false [])]).length = k.nL * 8 := by rw [lay_len' (by simp; omega), h2]
      obtain ⟨u1, u2⟩ := RkI.putL m1 h.jL hl2
      refine ⟨_, ?_, u1, u2, fun q hq => row_put_ne hq⟩
      simp only [storeV, h1]
      rw [if_pos ⟨rfl, rfl, by omega⟩, setBlk_put l4]
      rfl
    obtain ⟨c0, h1, h2⟩ : ∃ c0, s2.row r = some c0 ∧ c0.length = k.nL * 8 := by
      rcases m1.Lr with ⟨e, _⟩ | ⟨r', c0, e, _, h1, h2⟩
      · rw [h.jL] at e; cases e
      · rw [h.jL] at e; obtain rfl := Option.some.inj e; exact ⟨c0, h1, h2⟩
    obtain ⟨s3, n1, n2, n3, n4⟩ := hmine c0 h1 h2
    have hrow0 : s.row p = some [.rsl 8 r 0 k.nL k.nL, k.D] := by rw [← h.L]; exact q1.row
    have hrow2 : s2.row p = some [.rsl 8 r 0 k.nL k.nL, k.D] := by rw [← h.L]; exact m1.row
    have hil : i < k.nL := by omega
    have hiaL : iaddrV 8 (.rsl 8 r 0 k.nL k.nL) (.d (.i .i64 (i : Int))) = some (.ptr r (i * 8)) := by rw [iaddr_row hil, Nat.zero_add]
    obtain ⟨P, hP⟩ : ∃ P, P = V.ptr r (i * 8) := ⟨_, rfl⟩
    rw [← hP] at hiaL n1
    rw [hAl] at l1
    obtain ⟨U0, hU0⟩ : ∃ U0, U0 = elP 8 u i 0 := ⟨_, rfl⟩
    obtain ⟨U7, hU7⟩ : ∃ U0, U0 = elP 8 u i 7 := ⟨_, rfl⟩
    rw [← hU0] at hiu hfu
    rw [← hU7] at hfu hld7
    simp [F354_spindlelaw9_Rack_back_b1, hlen, hlt, hlt', hrow0, hrow2, hDia, hiu, hfu, hld7, l1, hiaL, n1, w1, fillV, lay, reps, ofDs]
    refine ⟨ss.length - (i + 1), by omega, (hJ _ _ _).2 ⟨i + 1, hlt, rfl, by simp, n2, qF.trans (m2.trans n3), (hBF _ _).2 fun m y hm hy => ?_⟩⟩
    obtain ⟨zm, cm, d1, d2, d3⟩ := (hBF _ _).1 hbf m y (by omega) hy
    have hlm : k.lab p (m + 3) = some zm := by simp [Rk.lab, d1]
    refine ⟨zm, cm, d1, ?_, d3⟩
    rw [n4 zm (hne1 _ zm hlm (by omega)), l3.kr.keep zm (row_lt d2) fun e => by
      have := q1.sep (m + 3) (i + 3) zm hlm (by rw [e]; exact hlz)
      omega]
    exact d2
  obtain ⟨_, b3, e2, s2, rfl, f5, f1, f2⟩ := b2
  refine CodeW.of_ex ⟨_, b3, ?_⟩
  simp [f5, FinW]
  exact ⟨f1, f2⟩
end
end Go.Sh
