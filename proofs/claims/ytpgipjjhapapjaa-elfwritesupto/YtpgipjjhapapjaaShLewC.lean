/- The document's Write of sections: its loops. -/
import Derived.Test.YtpgipjjhapapjaaShLewB
import Derived.Test.YtpgipjjhapapjaaShLlender
set_option linter.unusedVariables false
set_option linter.unusedSimpArgs false
set_option linter.unusedSectionVars false
namespace Go.Sh
def ownI (T : Nat) (l : List Nat) : V := .own 1 l.length (decide (0 < l.length)) (intC l) T
def padO (L : List UInt8) : List UInt8 := L ++ List.replicate (r8 L.length - L.length) 0
theorem padO_len (L : List UInt8) : (padO L).length = r8 L.length := by
  have := r8_ge L.length
  simp [padO]
  omega
theorem padO_app {P : List UInt8} {s : Sec} (h : P.length % 8 = 0) : padO (P ++ s.data) = P ++ padB s := by
  unfold padO padB
  rw [List.length_append, r8_add h, List.append_assoc]
  congr 2
  congr 1
  omega
section
variable {pr : Prog} (hr : Sub rwFns pr)
include hr
/-- The names, and where they stand. -/
theorem rw_names {st : St} {a b j : Nat} {u allv : V} {all : List Sec} {tail : List V} (hab : a ≠ b) (htf : st.tfloor = 0) (ha : st.tips[a]? = some 0) (hb : st.tips[b]? = some 0) (hl : all.length ≤ 17) (hlv : lenV allv = some all.length)
    (hrow : st.row j = some (ofDs (all.map Sec.cells).flatten ++ tail)) (hia : ∀ i : Nat, i < all.length → iaddrV 8 allv (.d (.i .i64 (i : Int))) = some (.ptr j (i * 8))) (hok : ∀ x ∈ all, okNm x.nm = true) :
    ∃ e, cden pr (.loop [0, 4, 5, 6, 7] false F352_spindleref9_Write_b0) [(0, u), (4, allv), (5, ownN a []), (6, ownI b []), (7, .d (.i .i64 0))] st = some (.exit 0, e, (st.tk a (nmsOf all).length).tk b all.length) ∧
      e.get 0 = some u ∧ e.get 4 = some allv ∧ e.get 5 = some (ownN a (nmsOf all)) ∧ e.get 6 = some (ownI b (all.map fun x => (findNm x.nm 1 (nmsOf all)).getD 0)) := by
  have hla := (List.getElem?_eq_some_iff.1 ha).1
  have hlb := (List.getElem?_eq_some_iff.1 hb).1
  obtain ⟨oN, hoN⟩ : ∃ o : List Nm → V, ∀ l, o l = ownN a l := ⟨_, fun _ => rfl⟩
  obtain ⟨oI, hoI⟩ : ∃ o : List Nat → V, ∀ l, o l = ownI b l := ⟨_, fun _ => rfl⟩
  obtain ⟨g, hg⟩ : ∃ g : Nat → Nat → St, ∀ n m, g n m = (st.tk a n).tk b m := ⟨_, fun _ _ => rfl⟩
  have hg0 : st = g 0 0 := by
    rw [hg, tk_self ha, tk_self hb]
  simp only [← hoN, ← hoI, ← hg]
  have hgr : ∀ n m, (g n m).row j = some (ofDs (all.map Sec.cells).flatten ++ tail) := fun n m => by rw [hg]; exact hrow
  generalize hL : cden pr (.loop _ _ _) _ _ = q
  obtain ⟨r, rfl, e, rfl, h⟩ : ∃ r, q = some r ∧ ∃ e, r = (.exit 0, e, g (nmsOf all).length all.length) ∧ e.get 0 = some u ∧ e.get 4 = some allv ∧ e.get 5 = some (oN (nmsOf all)) ∧ e.get 6 = some (oI (all.map fun x => (findNm x.nm 1 (nmsOf all)).getD 0)) := by
    rw [← hL]
    clear hL
    obtain ⟨J, hJ⟩ : ∃ J : Nat → Env → St → Prop, ∀ m e t, J m e t ↔ ∃ i pls, m = all.length - i ∧ i ≤ all.length ∧ e = [(0, u), (4, allv), (5, oN (nmsOf (all.take i))), (6, oI pls), (7, .d (.i .i64 (i : Nat)))] ∧ t = g (nmsOf (all.take i)).length i ∧ Plc (all.take i) pls := ⟨_, fun _ _ _ => Iff.rfl⟩
    refine loop_j J ?_ (n := all.length) ((hJ _ _ _).2 ⟨0, [], by omega, by omega, by simp [nmsOf], by simp [nmsOf, hg0.symm], by simp [Plc]⟩)
    intro m e t hh
    obtain ⟨i, pls, rfl, hi, rfl, rfl, hP⟩ := (hJ _ _ _).1 hh
    have hpl : pls.length = i := by rw [hP.1, List.length_take]; omega
    rcases Nat.lt_or_ge i all.length with h | h
    · obtain ⟨x, hx⟩ : ∃ x, all[i]? = some x := ⟨_, List.getElem?_eq_getElem h⟩
      have htk := take_snoc hx
      have w1 : IntKind.wrap .i64 ((i : Int) + 1) = i + 1 := wrap_i64 (by omega) (by omega)
      have hend := nmsOf_end (all.take i) fun s hs => hok s (List.mem_of_mem_take hs)
      have hnl := (okNm_len (hok x (List.mem_of_getElem? hx))).2
      have htl : (all.take i).length ≤ 17 := by rw [List.length_take]; omega
      have tA : (g (nmsOf (all.take i)).length i).tips[a]? = some (nmsOf (all.take i)).length := by rw [hg, tk_tip_ne hab, tk_tip hla]
      obtain ⟨p, p1, p2⟩ := den_place9 hr (st := g (nmsOf (all.take i)).length i) (T := a) (ns := nmsOf (all.take i)) (s := x.nm) tA (by rw [hg]; simp [htf]) (by omega)
      have hn1 : addNm (nmsOf (all.take i)) x.nm = nmsOf (all.take (i + 1)) := by rw [htk, nmsOf_snoc]
      rw [hn1] at p1
      have hg1 : (g (nmsOf (all.take i)).length i).tk a (nmsOf (all.take (i + 1))).length = g (nmsOf (all.take (i + 1))).length i := by
        rw [hg, hg]
        simp only [St.tk, St.mk.injEq, true_and, and_true]
        rw [List.set_comm _ _ hab.symm, List.set_set]
      rw [hg1, ← hoN, ← hoN] at p1
      have hap : appV 1 8 (g (nmsOf (all.take (i + 1))).length i) (oI pls) (.d (.sl 1 true [.i .i64 (p : Int)])) = some (oI (pls ++ [p]), g (nmsOf (all.take (i + 1))).length (i + 1)) := by
        have t1 : (g (nmsOf (all.take (i + 1))).length i).tips[b]? = some pls.length := by rw [hg, tk_tip (by simpa using hlb), hpl]
        have t2 : (g (nmsOf (all.take (i + 1))).length i).tfloor ≤ b := by rw [hg]; simp [htf]
        have t3 : g (nmsOf (all.take (i + 1))).length (i + 1) = (g (nmsOf (all.take (i + 1))).length i).tk b (pls.length + 1) := by rw [hg, hg, tk_tk, hpl]
        have t4 : (pls.length + 1) * 8 ≤ 140737488355328 := by omega
        have t5 : pls.length + 1 ≤ 140737488355328 := by omega
        have t6 : (intC pls).length = pls.length := by simp [intC]
        have t7 : intC pls ++ [D.i .i64 (p : Int)] = intC (pls ++ [p]) := by simp [intC]
        rw [hoI, hoI, t3]
        simp [appV, ownI, vw, t1, t2, t4, t5, t6, t7, St.tk]
      have hld : ∀ n m, loadV 1 false (g n m) (.ptr j (i * 8)) = some (.d (.s x.nm)) := fun n m => by
        have := secAt hx (hgr n m)
        simp only [loadV, hgr] at this ⊢
        split at this
        · rename_i h8
          rw [if_pos (by omega)]
          simp only [mkV, if_true, Option.some.injEq, V.agg.injEq] at this
          have h2 : (((ofDs (all.map Sec.cells).flatten ++ tail).drop (i * 8)).take 8).take 1 = [.d (.s x.nm)] := by rw [this]; rfl
          rw [List.take_take] at h2
          simp only [mkV]
          rw [show min 1 8 = 1 from rfl] at h2
          rw [h2]
          rfl
        · cases this
      have hia' := hia i h
      have hlv' : (i : Int) < all.length := by omega
      obtain ⟨P, hPd⟩ : ∃ P, P = V.ptr j (i * 8) := ⟨_, rfl⟩
      have hfa : faddrV 0 P = some P := by rw [hPd]; simp [faddrV]
      rw [← hPd] at hld hia'
      simp [F352_spindleref9_Write_b0, hlv, h, hia', hfa, hld, p1, w1, hap, fillV, lay, reps, ofDs]
      refine ⟨all.length - (i + 1), by omega, (hJ _ _ _).2 ⟨i + 1, pls ++ [p], rfl, h, by simp, rfl, ?_⟩⟩
      rw [htk]
      exact hP.snoc p2
    · obtain rfl : i = all.length := by omega
      rw [List.take_of_length_le (Nat.le_refl _)] at hP ⊢
      have := hP.eq
      simp [F352_spindleref9_Write_b0, hlv, this]
  exact ⟨e, rfl, h⟩
end
end Go.Sh
