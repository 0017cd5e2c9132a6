/- The document's Write of sections: numbers, names, the head, an entry. -/
import Derived.Test.YtpgipjjhapapjaaShLelf1
import Derived.Test.YtpgipjjhapapjaaShLstrsG
import Derived.Test.YtpgipjjhapapjaaShFref9
set_option linter.unusedVariables false
set_option linter.unusedSimpArgs false
set_option linter.unusedSectionVars false
namespace Go.Sh
def rwFns : List (Nat × SFn) := [(352, F352_spindleref9_Write), (355, F355_spindleref9_all), (356, F356_spindleref9_place), (357, F357_spindleref9_table), (358, F358_spindleref9_padded), (359, F359_spindleref9_entry), (360, F360_spindleref9_head), (361, F361_spindleref9_May), (362, F362_spindleref9_num)]
/-- The state with a token's tip moved. -/
def St.tk (st : St) (T n : Nat) : St := { st with tips := st.tips.set T n }
@[simp] theorem tk_heap {st : St} {T n : Nat} : (st.tk T n).heap = st.heap := rfl
@[simp] theorem tk_floor {st : St} {T n : Nat} : (st.tk T n).floor = st.floor := rfl
@[simp] theorem tk_tfloor {st : St} {T n : Nat} : (st.tk T n).tfloor = st.tfloor := rfl
@[simp] theorem tk_row {st : St} {T n i : Nat} : (st.tk T n).row i = st.row i := rfl
@[simp] theorem tk_tk {st : St} {T n m : Nat} : (st.tk T n).tk T m = st.tk T m := by simp [St.tk]
@[simp] theorem tk_len {st : St} {T n : Nat} : (st.tk T n).tips.length = st.tips.length := by simp [St.tk]
theorem tk_tip {st : St} {T n : Nat} (h : T < st.tips.length) : (st.tk T n).tips[T]? = some n := by simp [St.tk, h]
theorem tk_tip_ne {st : St} {T n u : Nat} (h : u ≠ T) : (st.tk T n).tips[u]? = st.tips[u]? := by
  simp only [St.tk]
  rw [List.getElem?_set, if_neg (fun e => h e.symm)]
theorem tk_self {st : St} {T n : Nat} (h : st.tips[T]? = some n) : st.tk T n = st := by
  obtain ⟨h1, h2⟩ := List.getElem?_eq_some_iff.1 h
  have : st.tips.set T n = st.tips := by rw [← h2]; exact List.set_getElem_self h1
  simp only [St.tk, this]
theorem tk_Kp {st : St} {T n : Nat} {R : Nat → Prop} {U : Nat → Prop} (hu : U T) : Kp st (st.tk T n) R U := ⟨rfl, rfl, Nat.le_refl _, by simp [St.tk], fun _ _ _ => rfl, fun u hu h => tk_tip_ne fun e => h (by rw [e]; assumption)⟩
theorem ownT_app9 {st : St} {T : Nat} {L M : List UInt8} {x : V} (hx : vw 1 st x = some (M.length, byteCells M)) (ht : st.tips[T]? = some L.length) (htf : st.tfloor ≤ T) (hb : L.length + M.length ≤ 140737488355328) :
    appV 1 1 st (ownT T L) x = some (ownT T (L ++ M), st.tk T (L.length + M.length)) := by
  have hcl : ∀ X : List UInt8, (byteCells X).length = X.length := byteCells_len
  have e : (byteCells L) ++ byteCells M = byteCells (L ++ M) := by simp [byteCells]
  simp [appV, ownT, hx, ht, htf, hcl, hb, e, St.tk]
section
variable {pr : Prog} (hr : Sub rwFns pr) {st : St}
include hr
theorem den_num9r {T : Nat} {L : List UInt8} (ht : st.tips[T]? = some L.length) (htf : st.tfloor ≤ T) (x w : Nat) (hw : w ≤ 8) (hb : L.length + w ≤ 140737488355328) :
    den pr 362 [ownT T L, .d (.i .i64 (x : Int)), .d (.i .i64 (w : Int))] st = some (ownT T (L ++ lowB w x), st.tk T (L.length + w)) := by
  have hlt := (List.getElem?_eq_some_iff.1 ht).1
  rw [den_fn (hr.at 8 rfl) rfl rfl, start_raw _ rfl]
  obtain ⟨o, ho⟩ : ∃ o : List UInt8 → V, ∀ L, o L = ownT T L := ⟨_, fun _ => rfl⟩
  simp only [← ho]
  simp [F362_spindleref9_num]
  generalize hL : cden pr (.loop _ _ _) _ _ = q
  obtain ⟨r, rfl, e, rfl, h0⟩ : ∃ r, q = some r ∧ ∃ e, r = (.exit 0, e, st.tk T (L.length + w)) ∧ e.get 0 = some (o (L ++ lowB w x)) := by
    rw [← hL]
    clear hL
    refine loop_n w (fun i => [(0, o (L ++ lowB i x)), (1, .d (.i .i64 (x : Int))), (2, .d (.i .i64 (w : Int))), (7, .d (.i .i64 (i : Nat)))]) (fun i => st.tk T (L.length + i)) ?_ (by simp [lowB]) (by simp [tk_self ht])
    intro i hi
    rcases Nat.lt_or_ge i w with h | h
    · have h1 : IntKind.wrap .i64 ((i : Int) + 1) = i + 1 := wrap_i64 (by omega) (by omega)
      have h2 : IntKind.wrap .i64 (8 * (i : Int)) = 8 * i := wrap_i64 (by omega) (by omega)
      have h3 : (0 : Int) ≤ 8 * i := by omega
      have h4 : min (8 * (i : Int)).toNat 64 = 8 * i := by omega
      have ha : appV 1 1 (st.tk T (L.length + i)) (o (L ++ lowB i x)) (.d (.sl 1 true [.i .u8 (UInt8.ofNat (x / 256 ^ i)).toNat])) = some (o (L ++ lowB (i + 1) x), st.tk T (L.length + (i + 1))) := by
        have h := ownT_app9 (st := st.tk T (L.length + i)) (T := T) (L := L ++ lowB i x) (M := [UInt8.ofNat (x / 256 ^ i)]) (x := .d (.sl 1 true [.i .u8 (UInt8.ofNat (x / 256 ^ i)).toNat])) rfl (by rw [tk_tip hlt]; simp) htf (by simp; omega)
        rw [ho, ho, h, lowB_succ]
        simp [Nat.add_assoc]
      have hbs' := byte_shr x i
      simp [F362_spindleref9_num_b0, h, h1, h2, h3, h4, shI_shr, IntKind.bits, fillV, lay, reps, ofDs, hbs', ha, -UInt8.toNat_ofNat']
    · obtain rfl : i = w := by omega
      simp [F362_spindleref9_num_b0]
  simp [h0]
/-- The same, numbers as they are told. -/
theorem den_num9i {T : Nat} {L : List UInt8} {n : Nat} {s : St} (hlt : T < s.tips.length) (htf : s.tfloor ≤ T) (x w : Int) (hn : n = L.length) (hx : 0 ≤ x) (hw0 : 0 ≤ w) (hw : w ≤ 8) (hb : n ≤ 140737488355000) :
    den pr 362 [ownT T L, .d (.i .i64 x), .d (.i .i64 w)] (s.tk T n) = some (ownT T (L ++ lowB w.toNat x.toNat), s.tk T (n + w.toNat)) := by
  obtain ⟨x, rfl⟩ : ∃ k : Nat, x = k := ⟨x.toNat, by omega⟩
  obtain ⟨w, rfl⟩ : ∃ k : Nat, w = k := ⟨w.toNat, by omega⟩
  have h := den_num9r hr (st := s.tk T n) (T := T) (L := L) (by rw [tk_tip hlt, hn]) htf x w (by omega) (by omega)
  rw [h, tk_tk, hn]
  simp
theorem den_head9 {c a : Nat} (hc : c ≤ 1000) (ha : a ≤ 140737488355328) : den pr 360 [.d (.i .i64 (c : Int)), .d (.i .i64 (a : Int))] st = some (bsl true (laidF (hdrF a (c + 2))), st) := by
  refine den_shut (hr.at 6 rfl) rfl rfl (by simp; rfl) ?_
  have hnum := fun (L : List UInt8) (n : Nat) (x w : Int) (h1 : n = L.length) (h2 : 0 ≤ x) (h3 : 0 ≤ w) (h4 : w ≤ 8) (h5 : n ≤ 140737488355000) => den_num9i hr (s := s0 [] [0] 0 0) (T := 0) (L := L) (n := n) (by simp) (Nat.zero_le _) x w h1 h2 h3 h4 h5
  obtain ⟨g, hg⟩ : ∃ g : Nat → St, ∀ n, g n = (s0 [] [0] 0 0).tk 0 n := ⟨_, fun _ => rfl⟩
  have hg0 : ∀ n, s0 [] [n] 0 0 = g n := fun n => by rw [hg]; rfl
  simp only [← hg] at hnum
  obtain ⟨o, ho⟩ : ∃ o : List UInt8 → V, ∀ L, o L = ownT 0 L := ⟨_, fun _ => rfl⟩
  simp only [← ho] at hnum
  have hM : V.own 1 16 true [.i .u8 127, .i .u8 69, .i .u8 76, .i .u8 70, .i .u8 2, .i .u8 1, .i .u8 1, .i .u8 0, .i .u8 0, .i .u8 0, .i .u8 0, .i .u8 0, .i .u8 0, .i .u8 0, .i .u8 0, .i .u8 0] 0 = o [127, 69, 76, 70, 2, 1, 1, 0, 0, 0, 0, 0, 0, 0, 0, 0] := by rw [ho]; rfl
  have h2 : IntKind.wrap .i64 ((c : Int) + 2) = c + 2 := wrap_i64 (by omega) (by omega)
  have h1 : IntKind.wrap .i64 ((c : Int) + 1) = c + 1 := wrap_i64 (by omega) (by omega)
  have p2 : (0 : Int) ≤ (c : Int) + 2 := by omega
  have p1 : (0 : Int) ≤ (c : Int) + 1 := by omega
  have t2 : ((c : Int) + 2).toNat = c + 2 := by omega
  have t1 : ((c : Int) + 1).toNat = c + 1 := by omega
  simp [F360_spindleref9_head, fillV, lay, reps, ofDs, hM, hg0, hnum, h1, h2, p1, p2, t1, t2]
  have m1 : lowB 4 1179403647 = [127, 69, 76, 70] := by decide
  have m2 : lowB 4 65794 = [2, 1, 1, 0] := by decide
  have m3 : lowB 8 0 = [0, 0, 0, 0, 0, 0, 0, 0] := by decide
  have hl : ∀ L, esc (g 64) 0 0 (o L) = some (bsl true L) := fun L => by rw [ho]; simp [ownT, esc, esc1, escC, bsl]
  rw [hl]
  have m4 : lowB 4 0 = [0, 0, 0, 0] := by decide
  have m5 : lowB 2 0 = [0, 0] := by decide
  simp [laidF, hdrF, m1, m2, m3, m4, m5]
/-- An entry. -/
theorem den_entry9 {T : Nat} {R : List UInt8} {x : Sec} {q a : Nat} (ht : st.tips[T]? = some R.length) (htf : st.tfloor ≤ T) (hm : mayS x = true) (hb : R.length ≤ 1099511627776) :
    den pr 359 [ownT T R, .d (.i .i64 (q : Int)), .agg (ofDs x.cells), .d (.i .i64 (a : Int))] st = some (ownT T (R ++ laidF (entF x q a)), (st.push (.row (ofDs x.cells))).tk T (R.length + 64)) := by
  have hlt := (List.getElem?_eq_some_iff.1 ht).1
  obtain ⟨nm, ty, fl, li, inf, al, es, data, nz⟩ := x
  obtain ⟨B, hB⟩ : ∃ B, B = V.d (D.sl data.length nz (byteCells data)) := ⟨_, rfl⟩
  have hBl : lenV B = some data.length := by rw [hB]; rfl
  have hcells : ofDs (Sec.cells ⟨nm, ty, fl, li, inf, al, es, data, nz⟩) = [.d (.s nm), .d (.i .i64 ty), .d (.i .i64 fl), .d (.i .i64 li), .d (.i .i64 inf), .d (.i .i64 al), .d (.i .i64 es), B] := by rw [hB]; rfl
  rw [hcells]
  clear hB hcells
  simp only [mayS, smallI, Bool.and_eq_true, decide_eq_true_eq] at hm
  obtain ⟨⟨⟨⟨⟨⟨_, a1, _⟩, a2, _⟩, a3, _⟩, a4⟩, a5⟩, a6⟩ := hm
  obtain ⟨g, hg⟩ : ∃ g : Nat → St, ∀ n, g n = (st.push (.row [.d (.s nm), .d (.i .i64 ty), .d (.i .i64 fl), .d (.i .i64 li), .d (.i .i64 inf), .d (.i .i64 al), .d (.i .i64 es), B])).tk T n := ⟨_, fun _ => rfl⟩
  have hnum := fun (L : List UInt8) (n : Nat) (x w : Int) (h1 : n = L.length) (h2 : 0 ≤ x) (h3 : 0 ≤ w) (h4 : w ≤ 8) (h5 : n ≤ 140737488355000) => den_num9i hr (s := st.push (.row [.d (.s nm), .d (.i .i64 ty), .d (.i .i64 fl), .d (.i .i64 li), .d (.i .i64 inf), .d (.i .i64 al), .d (.i .i64 es), B])) (T := T) (L := L) (n := n) hlt htf x w h1 h2 h3 h4 h5
  have hg0 : st.push (.row [.d (.s nm), .d (.i .i64 ty), .d (.i .i64 fl), .d (.i .i64 li), .d (.i .i64 inf), .d (.i .i64 al), .d (.i .i64 es), B]) = g R.length := by rw [hg]; exact (tk_self (st := st.push _) ht).symm
  have hrow : ∀ n, (g n).row st.heap.length = some [.d (.s nm), .d (.i .i64 ty), .d (.i .i64 fl), .d (.i .i64 li), .d (.i .i64 inf), .d (.i .i64 al), .d (.i .i64 es), B] := fun n => by rw [hg, tk_row]; exact row_push_new rfl
  simp only [← hg] at hnum ⊢
  obtain ⟨o, ho⟩ : ∃ o : List UInt8 → V, ∀ L, o L = ownT T L := ⟨_, fun _ => rfl⟩
  simp only [← ho] at hnum ⊢
  have b1 : ∀ k, k ≤ 64 → R.length + k ≤ 140737488355000 := fun k _ => by omega
  have b0 : R.length ≤ 140737488355000 := by omega
  rw [den_fn (hr.at 5 rfl) rfl rfl, start_raw _ rfl]
  simp [F359_spindleref9_entry, hg0, hrow, mkV, hnum, hBl, a1, a2, a3, a4, a5, a6, b0, b1, Nat.add_assoc]
  simp [laidF, entF]
def ownN (T : Nat) (ns : List Nm) : V := .own 1 ns.length (decide (0 < ns.length)) (ns.map .s) T
theorem ownN_c (T : Nat) (ns : List Nm) : SlC 1 (ownN T ns) (ns.map fun s => [.s s]) := by
  refine ⟨.d (.sl ns.length (decide (0 < ns.length)) (ns.map .s)), rfl, fun x hx => ?_, decide (0 < ns.length), ?_⟩
  · obtain ⟨y, _, rfl⟩ := List.mem_map.1 hx
    rfl
  · have : (ns.map fun s => [D.s s]).flatten = ns.map .s := by
      induction ns with
      | nil => rfl
      | cons a r ih => simp [ih]
    rw [this, List.length_map]
theorem den_place9 {T : Nat} {ns : List Nm} {s : Nm} (ht : st.tips[T]? = some ns.length) (htf : st.tfloor ≤ T) (hb : endAt 1 ns + s.length + 1 ≤ 1099511627776) :
    ∃ q, den pr 356 [ownN T ns, .d (.s s)] st = some (.tup [.d (.i .i64 (q : Nat)), ownN T (addNm ns s)], st.tk T (addNm ns s).length) ∧ findNm s 1 (addNm ns s) = some q := by
  have hlt := (List.getElem?_eq_some_iff.1 ht).1
  have hge := endAt_ge (a := 1) (ns := ns)
  obtain ⟨o, ho⟩ : ∃ o, o = ownN T ns := ⟨_, rfl⟩
  have hol : lenV o = some ns.length := by rw [ho]; rfl
  have hia : ∀ i : Nat, i < ns.length → iaddrV 1 o (.d (.i .i64 (i : Int))) = some (.ep ((ns.map .s).drop i)) := fun i h => by
    rw [ho]
    have : (i : Int) < ns.length := by omega
    simp [iaddrV, intV, ownN, h]
  have hld : ∀ (i : Nat) x s, ns[i]? = some x → loadV 1 false s (.ep ((ns.map .s).drop i)) = some (.d (.s x)) := fun i x s h => by
    have h1 := (List.getElem?_eq_some_iff.1 h).1
    have e : (ns.map D.s).drop i = .s x :: (ns.map D.s).drop (i + 1) := by
      rw [List.drop_eq_getElem_cons (by simpa using h1), List.getElem_map, (List.getElem?_eq_some_iff.1 h).2]
    rw [e]
    simp [loadV, mkV, ofDs]
  rw [← ho]
  obtain ⟨J2, hJ2⟩ : ∃ J2 : Out → Prop, ∀ r, J2 r ↔ ((∃ e, r = (.exit 0, e, st) ∧ e.get 0 = some o ∧ e.get 1 = some (.d (.s s)) ∧ e.get 6 = some (.d (.i .i64 (endAt 1 ns : Nat))) ∧ s ∉ ns) ∨ (∃ e q, r = (.ret, e, st) ∧ e.get 4 = some (.d (.i .i64 (q : Nat))) ∧ e.get 5 = some o ∧ s ∈ ns ∧ findNm s 1 ns = some q)) := ⟨_, fun _ => Iff.rfl⟩
  have key : ∃ r, cden pr (.loop [0, 1, 6, 7] false F356_spindleref9_place_b0) [(0, o), (1, .d (.s s)), (6, .d (.i .i64 1)), (7, .d (.i .i64 0))] st = some r ∧ J2 r := by
    obtain ⟨J, hJ⟩ : ∃ J : Nat → Env → St → Prop, ∀ m e t, J m e t ↔ ∃ i, m = ns.length - i ∧ i ≤ ns.length ∧ e = [(0, o), (1, .d (.s s)), (6, .d (.i .i64 (endAt 1 (ns.take i) : Nat))), (7, .d (.i .i64 (i : Nat)))] ∧ t = st ∧ s ∉ ns.take i := ⟨_, fun _ _ _ => Iff.rfl⟩
    refine loop_j J ?_ (n := ns.length) ((hJ _ _ _).2 ⟨0, by omega, by omega, by simp [endAt], rfl, by simp⟩)
    intro m e t hh
    obtain ⟨i, rfl, hi, rfl, rfl, hno⟩ := (hJ _ _ _).1 hh
    rcases Nat.lt_or_ge i ns.length with h | h
    · obtain ⟨x, hx⟩ : ∃ x, ns[i]? = some x := ⟨_, List.getElem?_eq_getElem h⟩
      have htk := take_snoc hx
      have he : endAt 1 (ns.take (i + 1)) = endAt 1 (ns.take i) + x.length + 1 := by rw [htk, endAt_snoc]
      have hm := endAt_mono (a := 1) (ns := ns) (i := i + 1)
      have w1 : IntKind.wrap .i64 ((i : Int) + 1) = i + 1 := wrap_i64 (by omega) (by omega)
      have w2 : IntKind.wrap .i64 ((endAt 1 (ns.take i) : Int) + x.length) = endAt 1 (ns.take i) + x.length := wrap_i64 (by omega) (by omega)
      have w3 : IntKind.wrap .i64 ((endAt 1 (ns.take i) : Int) + x.length + 1) = (endAt 1 (ns.take (i + 1)) : Nat) := by rw [wrap_i64 (by omega) (by omega)]; omega
      by_cases hxs : x = s
      · have hf : findNm s 1 ns = some (endAt 1 (ns.take i)) := by
          have e1 : ns = ns.take i ++ (x :: ns.drop (i + 1)) := by rw [← drop_cons hx, List.take_append_drop]
          conv => lhs; rw [e1]
          rw [findNm_app, findNm_none.2 hno]
          simp [findNm, hxs]
        simp [F356_spindleref9_place_b0, hol, h, hia i h, hld i x _ hx, hxs]
        exact (hJ2 _).2 (.inr ⟨_, _, rfl, by simp, by simp, by rw [← hxs]; exact List.mem_of_getElem? hx, hf⟩)
      · have hxs' : (x == s) = false := by simpa using hxs
        simp [F356_spindleref9_place_b0, hol, h, hia i h, hld i x _ hx, hxs', w1, w2, w3]
        refine ⟨ns.length - (i + 1), by omega, (hJ _ _ _).2 ⟨i + 1, rfl, h, by simp, rfl, ?_⟩⟩
        rw [htk, List.mem_append, List.mem_singleton]
        rintro (e | e)
        · exact hno e
        · exact hxs e.symm
    · obtain rfl : i = ns.length := by omega
      rw [List.take_of_length_le (Nat.le_refl _)] at hno
      simp [F356_spindleref9_place_b0, hol, hJ2, hno]
  rw [den_fn (hr.at 2 rfl) rfl rfl, start_raw _ rfl]
  obtain ⟨r, hr1, hr2⟩ := key
  rcases (hJ2 _).1 hr2 with ⟨e, rfl, g0, g1, g6, hm⟩ | ⟨e, q, rfl, g4, g5, hm, hf⟩
  · have ha : addNm ns s = ns ++ [s] := by simp [addNm, hm]
    have hap : appV 1 16 st o (.d (.sl 1 true [.s s])) = some (ownN T (ns ++ [s]), st.tk T (ns.length + 1)) := by
      rw [ho]
      have : (ns.length + 1) * 16 ≤ 140737488355328 := by omega
      have h2 : ns.length + 1 ≤ 140737488355328 := by omega
      simp [appV, ownN, vw, ht, htf, this, h2, St.tk]
    refine ⟨endAt 1 ns, ?_, ?_⟩
    · have hok : ∀ T ns, (ownN T ns).ok1 = true := fun _ _ => rfl
      obtain ⟨o2, ho2⟩ : ∃ o2, o2 = ownN T (ns ++ [s]) := ⟨_, rfl⟩
      have hok2 : o2.ok1 = true := by rw [ho2]; rfl
      rw [ha]
      rw [← ho2] at hap ⊢
      simp [F356_spindleref9_place, hr1, g0, g1, g6, fillV, lay, reps, ofDs, hap, hok2]
    · rw [ha, findNm_app, findNm_none.2 hm]
      simp [findNm]
  · have ha : addNm ns s = ns := by simp [addNm, hm]
    have hok2 : o.ok1 = true := by rw [ho]; rfl
    refine ⟨q, ?_, by rw [ha]; exact hf⟩
    rw [ha, tk_self ht, ← ho]
    simp [F356_spindleref9_place, hr1, g4, g5, hok2]
theorem den_table9 {v : V} {ns : List Nm} (hv : SlC 1 v (ns.map fun s => [.s s])) (hb : endAt 1 ns ≤ 1099511627776) : den pr 357 [v] st = some (bsl true (tabB ns), st) := by
  obtain ⟨u, hc, hu⟩ := hv.close
  refine den_shut (hr.at 3 rfl) rfl rfl (by simp [hc]; rfl) ?_
  have hlen := hu.len
  rw [List.length_map] at hlen
  have hge := endAt_ge (a := 1) (ns := ns)
  obtain ⟨o, ho⟩ : ∃ o : List UInt8 → V, ∀ L, o L = ownT 0 L := ⟨_, fun _ => rfl⟩
  have h0 : V.own 1 1 true [.i .u8 0] 0 = o (tabB []) := by rw [ho]; rfl
  simp [F357_spindleref9_table, fillV, lay, reps, ofDs, h0]
  generalize hL : cden pr (.loop _ _ _) _ _ = q
  obtain ⟨r, rfl, e, s, rfl, h3⟩ : ∃ r, q = some r ∧ ∃ e s, r = (.exit 0, e, s) ∧ e.get 3 = some (o (tabB ns)) := by
    rw [← hL]
    clear hL
    refine loop_n ns.length (fun i => [(0, u), (3, o (tabB (ns.take i))), (4, .d (.i .i64 (i : Nat)))]) (fun i => s0 [] [(tabB (ns.take i)).length] 0 0) ?_ (by simp [tabB]) (by simp [tabB])
    intro i hi
    rcases Nat.lt_or_ge i ns.length with h | h
    · obtain ⟨x, hx⟩ : ∃ x, ns[i]? = some x := ⟨_, List.getElem?_eq_getElem h⟩
      have w1 : IntKind.wrap .i64 ((i : Int) + 1) = i + 1 := wrap_i64 (by omega) (by omega)
      have hia := hu.iaddr (i := (i : Int)) (k := .i64) (by omega) (by simp; omega)
      simp only [Int.toNat_natCast] at hia
      have hld : ∀ s, loadV 1 false s (elP 1 u i 0) = some (.d (.s x)) := fun s => by
        rw [hu.load (el := [.s x]) (by simp [hx]) (by omega) (by simp)]
        rfl
      have hm := endAt_mono (a := 1) (ns := ns) (i := i + 1)
      have hm2 := tabB_len (ns := ns.take (i + 1))
      have htk := take_snoc hx
      have e1 : tabB (ns.take (i + 1)) = tabB (ns.take i) ++ (x ++ [0]) := by rw [htk, tabB_snoc]
      have hln : (tabB (ns.take (i + 1))).length = (tabB (ns.take i)).length + x.length + 1 := by rw [e1]; simp; omega
      have a1 := ownT_app9 (st := s0 [] [(tabB (ns.take i)).length] 0 0) (T := 0) (L := tabB (ns.take i)) (M := x) (x := .d (.s x)) rfl (by simp) (Nat.zero_le _) (by omega)
      have a2 := ownT_app9 (st := s0 [] [(tabB (ns.take i)).length + x.length] 0 0) (T := 0) (L := tabB (ns.take i) ++ x) (M := [0]) (x := .d (.sl 1 true [.i .u8 0])) rfl (by simp) (Nat.zero_le _) (by simp; omega)
      have g1 : ∀ n m, (s0 [] [n] 0 0).tk 0 m = s0 [] [m] 0 0 := fun _ _ => rfl
      rw [g1, ← ho, ← ho] at a1 a2
      have e2 : (tabB (ns.take i) ++ x).length + [(0 : UInt8)].length = (tabB (ns.take (i + 1))).length := by rw [hln]; simp
      rw [e2, List.append_assoc, ← e1] at a2
      simp [F357_spindleref9_table_b0, hlen, h, hia, hld, w1, a1, a2, fillV, lay, reps, ofDs]
    · obtain rfl : i = ns.length := by omega
      simp [F357_spindleref9_table_b0, hlen]
  simp [h3]
  rw [ho]
  simp [ownT, esc, esc1, escC, bsl]
end
end Go.Sh
