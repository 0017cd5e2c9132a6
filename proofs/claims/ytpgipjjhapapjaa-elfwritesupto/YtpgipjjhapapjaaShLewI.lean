/- The rack: sections are lent. -/
import Derived.Test.YtpgipjjhapapjaaShLewH
import Derived.Test.YtpgipjjhapapjaaShBe
set_option linter.unusedVariables false
set_option linter.unusedSimpArgs false
set_option linter.unusedSectionVars false
namespace Go.Sh
def rkFns : List (Nat × SFn) := [(353, F353_spindlelaw9_Rack_lend), (354, F354_spindlelaw9_Rack_back), (363, F363_spindlelaw0_Lender_Lend_row)]
def bhC (m : Nat) : List D := [.s [98, 101, 104, 105, 110, 100], .i .i64 ((m : Int) + 1), .i .i64 0, .i .i64 0, .i .i64 0, .i .i64 1, .i .i64 0, .sl 0 false []]
def rlOf (lb : List Lnd) (m : Nat) : Nat := ((lb[m]?).bind (·.2.2)).getD 0
def lnX (x : Sec) (r : Nat) : List V := [.d (.s x.nm), .d (.i .i64 x.ty), .d (.i .i64 x.fl), .d (.i .i64 x.li), .d (.i .i64 x.inf), .d (.i .i64 x.al), .d (.i .i64 x.es), .rsl 1 r 0 x.data.length (2 * x.data.length + 70)]
/-- What stands in the list's place number m. -/
def lnC (ss : List Sec) (lb : List Lnd) (m : Nat) : List V := match ss[m]? with
  | some x => lnX x (rlOf lb m)
  | none => ofDs (bhC m)
theorem lnC_len (ss : List Sec) (lb : List Lnd) (m : Nat) : (lnC ss lb m).length = 8 := by
  unfold lnC
  split <;> rfl
/-- What is lent: sections, and what stands behind them. -/
structure LentK (s : St) (p : Nat) (k : Rk) (ss : List Sec) (r : Nat) : Prop where
  rk : RkI s p k
  jL : k.jL = some r
  L : k.L = .rsl 8 r 0 k.nL k.nL
  n : 2 * ss.length + 9 ≤ k.nL ∧ ss.length ≤ k.lb.length
  list : s.row r = some (flatN k.nL (lnC ss k.lb))
  bufs : ∀ (m : Nat) x, ss[m]? = some x → ∃ r c, k.lb[m]? = some (.rsl 1 r 0 (wrow (lcell x.data) c (2 * x.data.length + 70)).length (wrow (lcell x.data) c (2 * x.data.length + 70)).length, (x.data.length : Int), some r) ∧ s.row r = some (wrow (lcell x.data) c (2 * x.data.length + 70)) ∧ 2 * x.data.length + 70 ≤ c.length
def wRk (f : Nat) : Bool := f == 363
section
variable {pr : Prog} (hk : Sub rkFns pr) (hd : Sub lendFns pr)
include hk hd
theorem rk_more {s : St} {p n : Nat} {k : Rk} {u : V} (h : RkI s p k) (hu : lenV u = some n) (hn : n ≤ 1048576) {Q : Out → Prop}
    (hQ : ∀ e s' k', e.get 0 = some (.ptr p 0) → e.get 1 = some u → RkI s' p k' → RkF s s' p k k' → k'.nL = k.nL → k'.jL = k.jL → k'.L = k.L → n ≤ k'.lb.length → Q (.exit 0, e, s')) :
    CodeW pr (.loop [0, 1] false F353_spindlelaw9_Rack_lend_b0) [(0, .ptr p 0), (1, u)] s Q := by
  obtain ⟨J, hJ⟩ : ∃ J : Nat → Env → St → Prop, ∀ n' e s', J n' e s' ↔ ∃ k', n' = n - k'.lb.length ∧ e = [(0, .ptr p 0), (1, u)] ∧ RkI s' p k' ∧ RkF s s' p k k' ∧ k'.nL = k.nL ∧ k'.jL = k.jL ∧ k'.L = k.L := ⟨_, fun _ _ _ => Iff.rfl⟩
  refine loopW_j wRk J ?_ (n := n - k.lb.length) ((hJ _ _ _).2 ⟨k, rfl, by simp, h, .refl _ _ _, rfl, rfl, rfl⟩)
  intro n' e s' hh
  obtain ⟨k', rfl, rfl, h1, h2, h3, h4, h5⟩ := (hJ _ _ _).1 hh
  have hrow := h1.row
  have hDl := h1.Dr.len
  rcases Nat.lt_or_ge k'.lb.length n with hlt | hge
  · have hlt' : (k'.lb.length : Int) < n := by omega
    simp [F353_spindlelaw9_Rack_lend_b0, hrow, hDl, hu, hlt, hlt', fillV, lay, reps, ofDs, toDs, toD]
    refine appW_LR h1.fl h1.Dr (show vwV 2 s' (.d (.sl 1 true [.sl 0 false [], .i .i64 0])) = some (1, [.d (.sl 0 false []), .d (.i .i64 0)]) from rfl) rfl rfl (by omega) (by omega) ?_
    intro s1 v' j' hD g hj
    have hl : k'.lb.length + 1 ≤ 4194304 := by omega
    obtain ⟨m1, m2, m3⟩ := h1.more hl hD g.kr hj
    have hset : ∀ cs, s1.setBlk p (.row cs) = some (s1.put p cs) := fun cs => setBlk_put (g.floor.trans h1.fl)
    have hv1 : v'.ok1 = true ∧ v'.cs = [v'] := by
      obtain ⟨_, ⟨_, rfl, _⟩ | ⟨_, _, _, _, rfl, _⟩⟩ := hD <;> exact ⟨rfl, rfl⟩
    simp [m1, hset, hv1, lay]
    exact ⟨n - (k'.lb.length + 1), by omega, (hJ _ _ _).2 ⟨_, by simp, by simp, m2, h2.trans m3, h3, h4, h5⟩⟩
  · have hlt' : ¬ (k'.lb.length : Int) < n := by omega
    simp [F353_spindlelaw9_Rack_lend_b0, hrow, hDl, hu, hlt', show ¬ k'.lb.length < n by omega]
    exact hQ _ s' k' rfl rfl h1 h2 h3 h4 h5 hge
theorem flatN_succ {n : Nat} {f : Nat → List V} : flatN (n + 1) f = flatN n f ++ f n := by simp [flatN, List.range_succ]
theorem rk_fill {s : St} {p r : Nat} {k : Rk} {u : V} (h : RkI s p k) (hj : k.jL = some r) :
    ∃ e, cden pr (.loop [0, 1, 5] false F353_spindlelaw9_Rack_lend_b1) [(0, .ptr p 0), (1, u), (5, .d (.i .i64 0))] s = some (.exit 2, e, s.put r (flatN k.nL (lnC [] k.lb))) ∧ e.get 0 = some (.ptr p 0) ∧ e.get 1 = some u := by
  obtain ⟨c, hL, hc, hcl⟩ : ∃ c, k.L = .rsl 8 r 0 k.nL k.nL ∧ s.row r = some c ∧ c.length = k.nL * 8 := by
    rcases h.Lr with ⟨e, _⟩ | ⟨r', c, e, h1, h2, h3⟩
    · rw [hj] at e; cases e
    · rw [hj] at e; obtain rfl := Option.some.inj e; exact ⟨c, h1, h2, h3⟩
  have hne : r ≠ p := fun e => by have := h.sep 1 0 p (by rw [← e]; exact hj) rfl; omega
  obtain ⟨f, hf⟩ : ∃ f : Nat → List V, f = lnC [] k.lb := ⟨_, rfl⟩
  have hfi : ∀ i, f i = ofDs (bhC i) := fun i => by rw [hf]; simp [lnC]
  have hfl : ∀ n, (flatN n f).length = n * 8 := fun n => flatN_len fun m _ => by rw [hf]; exact lnC_len _ _ _
  obtain ⟨S, hS⟩ : ∃ S : Nat → St, ∀ i, S i = s.put r (flatN i f ++ c.drop (i * 8)) := ⟨_, fun _ => rfl⟩
  have hsm := h.small.1
  have key : ∃ rr, cden pr (.loop [0, 1, 5] false F353_spindlelaw9_Rack_lend_b1) [(0, .ptr p 0), (1, u), (5, .d (.i .i64 0))] s = some rr ∧ ∃ e, rr = (.exit 2, e, S k.nL) ∧ e.get 0 = some (.ptr p 0) ∧ e.get 1 = some u := by
    refine loop_n k.nL (fun i => [(0, .ptr p 0), (1, u), (5, .d (.i .i64 (i : Nat)))]) S ?_ (by simp) (by rw [hS]; simp [flatN]; exact (put_self hc).symm)
    intro i hi
    have hrow : (S i).row p = some [k.L, k.D] := by rw [hS, row_put_ne (Ne.symm hne)]; exact h.row
    have hlen : lenV k.L = some k.nL := by rw [hL]; rfl
    rcases Nat.lt_or_ge i k.nL with hlt | hge
    · have hlt' : (i : Int) < k.nL := by omega
      have w1 : IntKind.wrap .i64 ((i : Int) + 1) = i + 1 := wrap_i64 (by omega) (by omega)
      have hia : iaddrV 8 k.L (.d (.i .i64 (i : Int))) = some (.ptr r (i * 8)) := by rw [hL, iaddr_row hlt, Nat.zero_add]
      have hrl : (flatN i f ++ c.drop (i * 8)).length = k.nL * 8 := by rw [List.length_append, hfl, List.length_drop]; omega
      have hlay : lay (flatN i f ++ c.drop (i * 8)) (i * 8) (ofDs (bhC i)) = flatN (i + 1) f ++ c.drop ((i + 1) * 8) := by
        unfold lay
        rw [List.take_left' (hfl i), List.drop_append, List.drop_of_length_le (by rw [hfl]; omega), flatN_succ hk hd, hfi, hfl, List.drop_drop]
        have e1 : (ofDs (bhC i)).length = 8 := rfl
        rw [e1]
        simp
        congr 1
        omega
      have hst : storeV 8 (S i) (.ptr r (i * 8)) (.agg (ofDs (bhC i))) = some (S (i + 1)) := by
        simp only [storeV, hS, row_put_eq (row_lt hc)]
        rw [if_pos ⟨rfl, rfl, by rw [hrl]; omega⟩, setBlk_put (by exact h.fl), put_put]
        show some (s.put r (lay (flatN i f ++ c.drop (i * 8)) (i * 8) (ofDs (bhC i)))) = _
        rw [hlay]
      obtain ⟨P, hP⟩ : ∃ P, P = V.ptr r (i * 8) := ⟨_, rfl⟩
      rw [← hP] at hia hst
      simp only [ofDs, bhC, List.map_cons, List.map_nil] at hst
      simp [F353_spindlelaw9_Rack_lend_b1, hrow, hlen, hlt, hlt', w1, hia, fillV, lay, reps, ofDs, hst]
    · obtain rfl : i = k.nL := by omega
      simp [F353_spindlelaw9_Rack_lend_b1, hrow, hlen]
  obtain ⟨_, k1, e, rfl, k2⟩ := key
  refine ⟨e, ?_, k2⟩
  rw [k1, hS, List.drop_of_length_le (by omega), List.append_nil, hf]
theorem lnX_lay {x : Sec} {r : Nat} : lay (ofDs x.cells) 7 [V.rsl 1 r 0 x.data.length (2 * x.data.length + 70)] = lnX x r := rfl
/-- One step of the lending. -/
theorem rk_lendall {s0 : St} {p r : Nat} {k0 : Rk} {u : V} {ss : List Sec} (hu : SlD 8 u (ss.map Sec.cells)) (h0 : RkI s0 p k0) (hj : k0.jL = some r) (hn : 2 * ss.length + 9 ≤ k0.nL ∧ ss.length ≤ k0.lb.length) (hlist : s0.row r = some (flatN k0.nL (lnC [] k0.lb))) (hdl : ∀ x ∈ ss, x.data.length ≤ 8589934592) {Q : Out → Prop}
    (hQ : ∀ e s' k', e.get 0 = some (.ptr p 0) → e.get 1 = some u → LentK s' p k' ss r → RkF s0 s' p k0 k' → k'.nL = k0.nL → k'.L = k0.L → Q (.exit 4, e, s')) :
    CodeW pr (.loop [0, 1, 6] false F353_spindlelaw9_Rack_lend_b2) [(0, .ptr p 0), (1, u), (6, .d (.i .i64 0))] s0 Q := by
  have hL0 : k0.L = .rsl 8 r 0 k0.nL k0.nL := by
    rcases h0.Lr with ⟨e, _⟩ | ⟨r', c, e, h1, h2, h3⟩
    · rw [hj] at e; cases e
    · rw [hj] at e; obtain rfl := Option.some.inj e; exact h1
  have hlen := hu.len
  rw [List.length_map] at hlen
  obtain ⟨BF, hBF⟩ : ∃ BF : List Sec → St → Rk → Prop, ∀ ts s k, BF ts s k ↔ ∀ (m : Nat) x, ts[m]? = some x → ∃ r c, k.lb[m]? = some (.rsl 1 r 0 (wrow (lcell x.data) c (2 * x.data.length + 70)).length (wrow (lcell x.data) c (2 * x.data.length + 70)).length, (x.data.length : Int), some r) ∧ s.row r = some (wrow (lcell x.data) c (2 * x.data.length + 70)) ∧ 2 * x.data.length + 70 ≤ c.length := ⟨_, fun _ _ _ => Iff.rfl⟩
  obtain ⟨J, hJ⟩ : ∃ J : Nat → Env → St → Prop, ∀ n' e s, J n' e s ↔ ∃ i k, i ≤ ss.length ∧ n' = ss.length - i ∧ e = [(0, .ptr p 0), (1, u), (6, .d (.i .i64 (i : Nat)))] ∧ RkI s p k ∧ RkF s0 s p k0 k ∧ k.jL = some r ∧ k.nL = k0.nL ∧ k.L = k0.L ∧ k.lb.length = k0.lb.length ∧ s.row r = some (flatN k0.nL (lnC (ss.take i) k.lb)) ∧ BF (ss.take i) s k := ⟨_, fun _ _ _ => Iff.rfl⟩
  refine loopW_j wRk J ?_ (n := ss.length) ((hJ _ _ _).2 ⟨0, k0, Nat.zero_le _, rfl, by simp, h0, .refl _ _ _, hj, rfl, rfl, rfl, by simpa using hlist, (hBF _ _ _).2 fun m x hx => by simp at hx⟩)
  intro n' e s hh
  obtain ⟨i, k, hi, rfl, rfl, h, hF, hjL, hnL, hL, hlbl, hrl, hbf⟩ := (hJ _ _ _).1 hh
  rcases Nat.lt_or_ge i ss.length with hlt | hge
  rotate_left
  · obtain rfl : i = ss.length := by omega
    rw [List.take_of_length_le (Nat.le_refl _)] at hrl hbf
    simp [F353_spindlelaw9_Rack_lend_b2, hlen]
    exact hQ _ s k rfl rfl ⟨h, hjL, by rw [hL, hL0, hnL], by rw [hnL, hlbl]; exact hn, by rw [hnL]; exact hrl, (hBF _ _ _).1 hbf⟩ hF hnL hL
  obtain ⟨x, hx⟩ : ∃ x, ss[i]? = some x := ⟨_, List.getElem?_eq_getElem hlt⟩
  have hlt' : (i : Int) < ss.length := by omega
  have hsm0 := h0.small
  have w1 : IntKind.wrap .i64 ((i : Int) + 1) = i + 1 := wrap_i64 (by omega) (by omega)
  have hrow := h.row
  have hfl := h.fl
  have hsm := h0.small
  -- the section's cells
  have hiu := hu.iaddr (i := (i : Int)) (k := .i64) (by omega) (by simp; omega)
  simp only [Int.toNat_natCast] at hiu
  have hfu : faddrV 7 (elP 8 u i 0) = some (elP 8 u i 7) := hu.faddr
  have hld : ∀ s, loadV 8 true s (elP 8 u i 0) = some (.agg (ofDs x.cells)) := fun s => by
    rw [hu.load (el := x.cells) (by simp [hx]) (by omega) (by omega)]
    rfl
  have hld7 : ∀ s, loadV 1 false s (elP 8 u i 7) = some (bsl x.nz x.data) := fun s => by
    rw [hu.load (el := x.cells) (by simp [hx]) (by omega) (by omega)]
    rfl
  -- the list's place
  have hil : i < k0.nL := by omega
  have hiaL : iaddrV 8 (.rsl 8 r 0 k0.nL k0.nL) (.d (.i .i64 (i : Int))) = some (.ptr r (i * 8)) := by rw [iaddr_row hil, Nat.zero_add]
  have hf8 : ∀ m, m < k0.nL → (lnC (ss.take i) k.lb m).length = 8 := fun m _ => lnC_len _ _ _
  have hlay1 := lay_flat (o := 0) (ys := ofDs x.cells) hf8 hil (by simp [ofDs, Sec.cells])
  rw [Nat.add_zero] at hlay1
  obtain ⟨f1, hf1⟩ : ∃ f1, f1 = updN' (lnC (ss.take i) k.lb) i (lay (lnC (ss.take i) k.lb i) 0 (ofDs x.cells)) := ⟨_, rfl⟩
  rw [← hf1] at hlay1
  have hf1i : f1 i = ofDs x.cells := by
    have : lnC (ss.take i) k.lb i = ofDs (bhC i) := by unfold lnC; rw [List.getElem?_eq_none (by rw [List.length_take]; omega)]
    rw [hf1, updN', if_pos rfl, this]
    rfl
  have hf1m : ∀ m, m ≠ i → f1 m = lnC (ss.take i) k.lb m := fun m hm => by rw [hf1, updN', if_neg hm]
  have hf18 : ∀ m, m < k0.nL → (f1 m).length = 8 := fun m hm => by
    by_cases e : m = i
    · rw [e, hf1i]; rfl
    · rw [hf1m m e]; exact lnC_len _ _ _
  have hfl1 : (flatN k0.nL (lnC (ss.take i) k.lb)).length = k0.nL * 8 := flatN_len hf8
  have hfl2 : (flatN k0.nL f1).length = k0.nL * 8 := flatN_len hf18
  obtain ⟨s1, hs1⟩ : ∃ s1, s1 = s.put r (flatN k0.nL f1) := ⟨_, rfl⟩
  obtain ⟨q1, q2⟩ := h.putL hjL (c' := flatN k0.nL f1) (by rw [hfl2, hnL])
  rw [← hs1] at q1 q2
  have hst1 : storeV 8 s (.ptr r (i * 8)) (.agg (ofDs x.cells)) = some s1 := by
    simp only [storeV, hrl]
    rw [if_pos ⟨rfl, rfl, by rw [hfl1]; omega⟩, setBlk_put hfl]
    show some (s.put r (lay (flatN k0.nL (lnC (ss.take i) k.lb)) (i * 8) (ofDs x.cells))) = _
    rw [hlay1, hs1]
  have hrl1 : s1.row r = some (flatN k0.nL f1) := by rw [hs1]; exact row_put_eq (row_lt hrl)
  have hrow1 := q1.row
  -- the lender
  have hlbi : i < k.lb.length := by omega
  obtain ⟨⟨B, N, j⟩, hlb⟩ : ∃ b, k.lb[i]? = some b := ⟨_, List.getElem?_eq_getElem hlbi⟩
  obtain ⟨jd, hjd, hDia⟩ := q1.Dr.iaddr (i := i) (k := .i64) hlbi
  obtain ⟨tail, htail⟩ := q1.Dr.inRow hjd
  have htail' : s1.row jd = some (lbC (k.lb.take i) ++ B :: .d (.i .i64 N) :: (lbC (k.lb.drop (i + 1)) ++ tail)) := by
    rw [htail, lbC_split hlb]
    simp
  have hAl : (lbC (k.lb.take i)).length = i * 2 := by rw [lbC_len, List.length_take]; omega
  have hlab : ∀ z, j = some z → k.lab p (i + 3) = some z := fun z e => by simp [Rk.lab, hlb, e]
  have hLn : LnO s1 jd (lbC (k.lb.take i)) (lbC (k.lb.drop (i + 1)) ++ tail) B N j := by
    refine ⟨q1.fl, htail', ?_⟩
    rcases q1.B _ (List.mem_of_getElem? hlb) with h1 | ⟨z, c, h1, h2, h3, h4⟩
    · exact .inl h1
    · refine .inr ⟨z, c, h1, h2, h3, fun e => ?_⟩
      have := q1.sep (i + 3) 2 z (hlab z h1) (by rw [e]; exact hjd)
      omega
  obtain ⟨s2, z, c, l1, l2, l3, l4, l5⟩ := den_LendO hd hLn (nz := x.nz) (L := x.data) (hdl x (List.mem_of_getElem? hx)) (by
    intro z c hz e
    rcases q1.B _ (List.mem_of_getElem? hlb) with ⟨_, h2⟩ | ⟨z', c', h1, h2, h3, h4⟩
    · simp only at h2; rw [h2] at e; cases e
    · simp only at h2
      rw [h2] at e
      obtain ⟨rfl, _⟩ : z' = z ∧ c'.length = c.length := by simpa using e
      rw [h3] at hz
      obtain rfl := Option.some.inj hz
      exact h4)
  obtain ⟨W, hW⟩ : ∃ W, W = wrow (lcell x.data) c (2 * x.data.length + 70) := ⟨_, rfl⟩
  have hWl : W.length = c.length := by rw [hW]; exact wrow_len l2.len
  have hWrow : s2.row z = some W := by rw [hW]; exact l2.buf
  obtain ⟨m1, m2⟩ := q1.setB (r := z) (N' := (x.data.length : Int)) (c := W) hlb hjd htail (by rw [hWl]; exact l2.row) hWrow (by rw [hWl]; exact l5) l3 l4.kr
  obtain ⟨k2, hk2⟩ : ∃ k2 : Rk, k2 = { k with lb := k.lb.set i (.rsl 1 z 0 W.length W.length, (x.data.length : Int), some z) } := ⟨_, rfl⟩
  rw [← hk2] at m1 m2
  have hk2L : k2.jL = some r := by rw [hk2]; exact hjL
  have hk2n : k2.nL = k0.nL := by rw [hk2]; exact hnL
  have hk2LL : k2.L = k.L := by rw [hk2]
  have hk2lb : ∀ m, m ≠ i → k2.lb[m]? = k.lb[m]? := fun m hm => by rw [hk2]; simp only; rw [List.getElem?_set, if_neg (fun e => hm e.symm)]
  have hk2i : k2.lb[i]? = some (.rsl 1 z 0 W.length W.length, (x.data.length : Int), some z) := by rw [hk2]; simp [hlbi]
  have hne1 : ∀ a q, k.lab p a = some q → a ≠ 1 → q ≠ r := fun a q e hn e2 => hn (q1.sep a 1 q e (by rw [e2]; exact hjL))
  have hkeep2 : ∀ a q, k.lab p a = some q → a ≠ 2 → a ≠ i + 3 → s2.row q = s1.row q := fun a q e hn hn2 => l4.kr.keep q (lab_lt q1 e) fun e2 => by
    rcases e2 with rfl | e2
    · exact hn (q1.sep a 2 q e hjd)
    · exact hn2 (q1.sep a (i + 3) q e (hlab q e2))
  have hrow2 : s2.row p = some [k.L, k.D] := (hkeep2 0 p rfl (by omega) (by omega)).trans hrow1
  have hrl2 : s2.row r = some (flatN k0.nL f1) := (hkeep2 1 r hjL (by omega) (by omega)).trans hrl1
  have hzr : z ≠ r := by
    rcases l3 with e | e
    · exact hne1 (i + 3) z (hlab z e) (by omega)
    · have := row_lt hrl1; omega
  have hlay2 := lay_flat (o := 7) (ys := [V.rsl 1 z 0 x.data.length (2 * x.data.length + 70)]) hf18 hil (by simp)
  rw [hf1i, lnX_lay hk hd] at hlay2
  have hf2 : flatN k0.nL (updN' f1 i (lnX x z)) = flatN k0.nL (lnC (ss.take (i + 1)) k2.lb) := flatN_congr fun m hm => by
    unfold updN'
    have htk := take_snoc hx
    by_cases e : m = i
    · subst e
      rw [if_pos rfl]
      have e1 : (ss.take (m + 1))[m]? = some x := by rw [htk, List.getElem?_append_right (by rw [List.length_take]; omega)]; simp [List.length_take, Nat.min_eq_left (Nat.le_of_lt hlt)]
      have e2 : rlOf k2.lb m = z := by unfold rlOf; rw [hk2i]; rfl
      unfold lnC
      rw [e1, e2]
    · rw [if_neg e, hf1m m e]
      have e2 : rlOf k2.lb m = rlOf k.lb m := by unfold rlOf; rw [hk2lb m e]
      unfold lnC
      rcases Nat.lt_or_ge m i with h1 | h1
      · rw [htk, List.getElem?_append_left (by rw [List.length_take]; omega), e2]
      · rw [List.getElem?_eq_none (by rw [List.length_take]; omega), List.getElem?_eq_none (by rw [List.length_take]; omega)]
  rw [hf2] at hlay2
  obtain ⟨s3, hs3⟩ : ∃ s3, s3 = s2.put r (flatN k0.nL (lnC (ss.take (i + 1)) k2.lb)) := ⟨_, rfl⟩
  have hst2 : storeV 1 s2 (.ptr r (i * 8 + 7)) (.rsl 1 z 0 x.data.length (2 * x.data.length + 70)) = some s3 := by
    simp only [storeV, hrl2]
    rw [if_pos ⟨rfl, rfl, by rw [hfl2]; omega⟩, setBlk_put l2.fl]
    show some (s2.put r (lay (flatN k0.nL f1) (i * 8 + 7) [V.rsl 1 z 0 x.data.length (2 * x.data.length + 70)])) = _
    rw [hlay2, hs3]
  obtain ⟨u1, u2⟩ := m1.putL hk2L (c' := flatN k0.nL (lnC (ss.take (i + 1)) k2.lb)) (by rw [flatN_len (k := 8) fun m _ => lnC_len _ _ _, hk2n])
  rw [← hs3] at u1 u2
  have hcall : CallW pr 363 [.ptr jd (lbC (k.lb.take i)).length, bsl x.nz x.data] s1 fun v s => v = .rsl 1 z 0 x.data.length (2 * x.data.length + 70) ∧ s = s2 := CallW.mute (hd.at 0 rfl) (hk.at 2 rfl) rfl rfl rfl rfl rfl rfl rfl l1
  rw [hAl] at hcall
  have hkL : k.L = .rsl 8 r 0 k0.nL k0.nL := by rw [hL, hL0]
  have hiaL' : iaddrV 8 k.L (.d (.i .i64 (i : Int))) = some (.ptr r (i * 8)) := by rw [hkL]; exact hiaL
  obtain ⟨P, hP⟩ : ∃ P, P = V.ptr r (i * 8) := ⟨_, rfl⟩
  obtain ⟨P7, hP7⟩ : ∃ P, P = V.ptr r (i * 8 + 7) := ⟨_, rfl⟩
  have hfa : faddrV 7 P = some P7 := by rw [hP, hP7]; simp [faddrV]
  rw [← hP] at hiaL' hst1
  rw [← hP7] at hst2
  obtain ⟨U0, hU0⟩ : ∃ U0, U0 = elP 8 u i 0 := ⟨_, rfl⟩
  obtain ⟨U7, hU7⟩ : ∃ U0, U0 = elP 8 u i 7 := ⟨_, rfl⟩
  rw [← hU0] at hiu hfu hld
  rw [← hU7] at hfu hld7
  obtain ⟨X, hX⟩ : ∃ X, X = ofDs x.cells := ⟨_, rfl⟩
  rw [← hX] at hld hst1
  simp [F353_spindlelaw9_Rack_lend_b2, hlen, hlt, hlt', hrow, hiaL', hiu, hld, hst1, wRk]
  refine drawn3 17 [0, 1, 2, 3, 4, 5, 6, 7, 8, 9, 10, 11, 12, 13, 14, 15] [16] [] (by decide) ?_
  simp [picks, hrow1, hDia, hiu, hfu, hld7]
  refine hcall.mono ?_
  rintro v s ⟨rfl, rfl⟩
  simp [hrow2, hDia, hiu, hfu, hld7, hiaL', hfa, hst2, w1]
  refine ⟨ss.length - (i + 1), by omega, (hJ _ _ _).2 ⟨i + 1, k2, hlt, rfl, by simp, u1, (hF.trans q2).trans (m2.trans u2), hk2L, hk2n, by rw [hk2LL, hL], by rw [hk2]; simp [hlbl], by rw [hs3]; exact row_put_eq (row_lt hrl2), (hBF _ _ _).2 fun m y hy => ?_⟩⟩
  have htk := take_snoc hx
  rcases Nat.lt_trichotomy m i with hm | rfl | hm
  · rw [htk, List.getElem?_append_left (by rw [List.length_take]; omega)] at hy
    obtain ⟨rm, cm, b1, b2, b3⟩ := (hBF _ _ _).1 hbf m y hy
    have hlm : k.lab p (m + 3) = some rm := by simp [Rk.lab, b1]
    refine ⟨rm, cm, by rw [hk2lb m (by omega)]; exact b1, ?_, b3⟩
    rw [hs3, row_put_ne (hne1 _ rm hlm (by omega)), hkeep2 _ rm hlm (by omega) (by omega), hs1, row_put_ne (hne1 _ rm hlm (by omega))]
    exact b2
  · have e1 : (ss.take (m + 1))[m]? = some x := by rw [htk, List.getElem?_append_right (by rw [List.length_take]; omega)]; simp [List.length_take, Nat.min_eq_left (Nat.le_of_lt hlt)]
    rw [e1] at hy
    obtain rfl := Option.some.inj hy
    refine ⟨z, c, by rw [hk2i, hW], ?_, l2.len⟩
    rw [hs3, row_put_ne hzr, hWrow, hW]
  · rw [List.getElem?_eq_none (by rw [List.length_take]; omega)] at hy
    cases hy
/-- Sections are lent. -/
theorem callW_rlend {s : St} {p : Nat} {k : Rk} {u : V} {ss : List Sec} (h : RkI s p k) (hu : SlD 8 u (ss.map Sec.cells)) (hn : ss.length ≤ 1048576) (hdl : ∀ x ∈ ss, x.data.length ≤ 8589934592) :
    CallW pr 353 [.ptr p 0, u] s fun v s' => ∃ k' r, v = .rsl 8 r 0 ss.length k'.nL ∧ LentK s' p k' ss r ∧ RkF s s' p k k' := by
  refine .run wRk (hk.at 0 rfl) rfl ?_
  rw [start_raw _ rfl]
  refine codeC_of ?_
  have hlen := hu.len
  rw [List.length_map] at hlen
  have hrow := h.row
  have hpl := row_lt hrow
  have w1 : IntKind.wrap .i64 (2 * (ss.length : Int)) = 2 * ss.length := wrap_i64 (by omega) (by omega)
  have w2 : IntKind.wrap .i64 (2 * (ss.length : Int) + 9) = 2 * ss.length + 9 := wrap_i64 (by omega) (by omega)
  have hLl : lenV k.L = some k.nL := by
    rcases h.Lr with ⟨_, e1, e2⟩ | ⟨r', c, _, e1, _⟩
    · rw [e1, e2]; rfl
    · rw [e1]; rfl
  obtain ⟨Q, hQ⟩ : ∃ Q : V → St → Prop, ∀ v s', Q v s' ↔ ∃ k' r, v = .rsl 8 r 0 ss.length k'.nL ∧ LentK s' p k' ss r ∧ RkF s s' p k k' := ⟨_, fun _ _ => Iff.rfl⟩
  simp only [← hQ]
  by_cases hc : (k.nL : Int) < 2 * ss.length + 9
  · obtain ⟨C, hC⟩ : ∃ C, C = ofDs (reps (2 * ss.length + 9) [D.s [], .i .i64 0, .i .i64 0, .i .i64 0, .i .i64 0, .i .i64 0, .i .i64 0, .sl 0 false []]) := ⟨_, rfl⟩
    have hCl : C.length = (2 * ss.length + 9) * 8 := by rw [hC]; simp [ofDs, reps_len]
    obtain ⟨a1, a2⟩ := h.newL (m := 2 * ss.length + 9) (c := C) (by omega) hCl
    obtain ⟨s1, hs1⟩ : ∃ s1, s1 = (s.push (.row C)).put p [.rsl 8 s.heap.length 0 (2 * ss.length + 9) (2 * ss.length + 9), k.D] := ⟨_, rfl⟩
    obtain ⟨k1, hk1⟩ : ∃ k1 : Rk, k1 = { k with L := .rsl 8 s.heap.length 0 (2 * ss.length + 9) (2 * ss.length + 9), nL := 2 * ss.length + 9, jL := some s.heap.length } := ⟨_, rfl⟩
    rw [← hs1, ← hk1] at a1 a2
    obtain ⟨r, a3⟩ : ∃ r, k1.jL = some r := ⟨s.heap.length, by rw [hk1]⟩
    have a4 : 2 * ss.length + 9 ≤ k1.nL := by rw [hk1]; exact Nat.le_refl _
    have hroom : room 88 (.d (.i .i64 (2 * (ss.length : Int) + 9))) = some (2 * ss.length + 9) := by
      simp [room]
      omega
    have hpush : (s.push (.row C)).row p = some [k.L, k.D] := by rw [row_old hpl]; exact hrow
    have hset1 : (s.push (.row C)).setBlk p (.row [.rsl 8 s.heap.length 0 (2 * ss.length + 9) (2 * ss.length + 9), k.D]) = some s1 := by rw [hs1]; exact setBlk_put (by simpa using h.fl)
    simp [F353_spindlelaw9_Rack_lend, hrow, hLl, hlen, w1, w2, hc, hroom, ← hC, hpush, lay, hset1]
    refine rk_more hk hd a1 hlen hn ?_
    rintro e2 s2 k2 g0 g1 b1 b2 b3 b4 b5 b6
    simp [g0, g1]
    obtain ⟨e3, f1, f2, f3⟩ := rk_fill hk hd (u := u) b1 (by rw [b4]; exact a3)
    refine CodeW.of_ex ⟨_, f1, ?_⟩
    obtain ⟨c1, c2⟩ := b1.putL (c' := flatN k2.nL (lnC [] k2.lb)) (by rw [b4]; exact a3) (flatN_len fun m _ => lnC_len _ _ _)
    simp [f2, f3]
    refine rk_lendall hk hd hu c1 (by rw [b4]; exact a3) (by rw [b3]; exact ⟨a4, b6⟩) (row_put_eq (lab_lt b1 (a := 1) (by show k2.jL = some r; rw [b4]; exact a3))) hdl ?_
    rintro e4 s4 k4 g4 g5 d1 d2 d3 d4
    have hrow4 := d1.rk.row
    have hsl : slcV 8 (.rsl 8 r 0 k4.nL k4.nL) none (some (.d (.i .i64 (ss.length : Int)))) none = some (.rsl 8 r 0 ss.length k4.nL) := by
      have b1 : (0 : Int) ≤ ss.length ∧ (ss.length : Int) ≤ k4.nL := by have := d1.n.1; omega
      simp only [slcV, if_true, bnds, bnd, intV, b1, and_self, Int.toNat_natCast, Option.map_some, Nat.zero_mul, Nat.add_zero, Nat.sub_zero]
    rw [d1.L] at hrow4
    simp [g4, g5, hrow4, hlen, hsl, FinW]
    exact (hQ _ _).2 ⟨k4, r, rfl, d1, (a2.trans b2).trans (c2.trans d2)⟩
  · obtain ⟨r, a3⟩ : ∃ r, k.jL = some r := by
      rcases h.Lr with ⟨_, _, e⟩ | ⟨r, _, e, _⟩
      · omega
      · exact ⟨r, e⟩
    have a4 : 2 * ss.length + 9 ≤ k.nL := by omega
    simp [F353_spindlelaw9_Rack_lend, hrow, hLl, hlen, w1, w2, hc]
    refine rk_more hk hd h hlen hn ?_
    rintro e2 s2 k2 g0 g1 b1 b2 b3 b4 b5 b6
    simp [g0, g1]
    obtain ⟨e3, f1, f2, f3⟩ := rk_fill hk hd (u := u) b1 (by rw [b4]; exact a3)
    refine CodeW.of_ex ⟨_, f1, ?_⟩
    obtain ⟨c1, c2⟩ := b1.putL (c' := flatN k2.nL (lnC [] k2.lb)) (by rw [b4]; exact a3) (flatN_len fun m _ => lnC_len _ _ _)
    simp [f2, f3]
    refine rk_lendall hk hd hu c1 (by rw [b4]; exact a3) (by rw [b3]; exact ⟨a4, b6⟩) (row_put_eq (lab_lt b1 (a := 1) (by show k2.jL = some r; rw [b4]; exact a3))) hdl ?_
    rintro e4 s4 k4 g4 g5 d1 d2 d3 d4
    have hrow4 := d1.rk.row
    have hsl : slcV 8 (.rsl 8 r 0 k4.nL k4.nL) none (some (.d (.i .i64 (ss.length : Int)))) none = some (.rsl 8 r 0 ss.length k4.nL) := by
      have b1 : (0 : Int) ≤ ss.length ∧ (ss.length : Int) ≤ k4.nL := by have := d1.n.1; omega
      simp only [slcV, if_true, bnds, bnd, intV, b1, and_self, Int.toNat_natCast, Option.map_some, Nat.zero_mul, Nat.add_zero, Nat.sub_zero]
    rw [d1.L] at hrow4
    simp [g4, g5, hrow4, hlen, hsl, FinW]
    exact (hQ _ _).2 ⟨k4, r, rfl, d1, b2.trans (c2.trans d2)⟩
end
end Go.Sh
