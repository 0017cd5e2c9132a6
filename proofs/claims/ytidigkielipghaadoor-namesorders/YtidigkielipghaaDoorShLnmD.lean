/- What is gathered, in the heap: a map block, a row for each name, lists that grow. -/
import Derived.Test.YtidigkielipghaaDoorShLnmC
import Derived.Test.YtidigkielipghaaDoorShLstrs1
import Derived.Test.YtidigkielipghaaDoorShFnames
import Derived.Test.YtidigkielipghaaDoorShFmaps
import Derived.Test.YtidigkielipghaaDoorShFslices
set_option linter.unusedVariables false
set_option linter.unusedSimpArgs false
set_option linter.unusedSectionVars false
namespace Go.Sh
def Bnd.cells (b : Bnd) : List D := [.s b.nm, .i .i64 b.ob, .i .i64 b.fn]
theorem Bnd.c3 (x : Bnd) : x.cells.length = 3 := rfl
/-- A list that has grown from nothing; its token. -/
def grl {α : Type} (c : α → List D) (sz : Nat) (l : List α) (t : Nat) : V := if l = [] then .d (.sl 0 false []) else .own sz l.length true (l.map c).flatten t
theorem grl_one {α : Type} (c : α → List D) (sz : Nat) (l : List α) (t : Nat) : (grl c sz l t).ok1 = true ∧ (grl c sz l t).cs = [grl c sz l t] := by
  unfold grl
  split <;> exact ⟨rfl, rfl⟩
theorem grl_len {α : Type} (c : α → List D) (sz : Nat) (l : List α) (t : Nat) : lenV (grl c sz l t) = some l.length := by
  unfold grl
  split
  · rename_i h
    subst h
    rfl
  · rfl
theorem grl_nil {α : Type} (c : α → List D) (sz t t' : Nat) : grl c sz [] t = grl c sz [] t' := rfl
theorem grl_app {α : Type} {c : α → List D} {sz by' : Nat} (hc : ∀ x, (c x).length = sz) {l : List α} {t : Nat} {st : St} (ht : l ≠ [] → st.tips[t]? = some l.length) (htf : st.tfloor = 0) (x : α) (hb : (l.length + 1) * by' ≤ 140737488355328) (hn : l.length + 1 ≤ 140737488355328) :
    ∃ t' tips', appV sz by' st (grl c sz l t) (.d (.sl 1 true (c x))) = some (grl c sz (l ++ [x]) t', { st with tips := tips' }) ∧ st.tips.length ≤ tips'.length ∧ (∀ u, u < st.tips.length → (l = [] ∨ u ≠ t) → tips'[u]? = st.tips[u]?) ∧ tips'[t']? = some (l ++ [x]).length ∧ ((l ≠ [] ∧ t' = t) ∨ t' = st.tips.length) := by
  have hx : (c x).length = 1 * sz := by rw [hc]; omega
  by_cases hl : l = []
  · subst hl
    refine ⟨st.tips.length, st.tips ++ [1], ?_, by simp, fun u hu _ => by rw [List.getElem?_append_left hu], by simp, .inr rfl⟩
    unfold grl appV
    simp only [if_true, List.nil_append, List.cons_ne_nil, if_false]
    have h1 : vw sz st (.d (.sl 1 true (c x))) = some (1, c x) := rfl
    rw [h1]
    simp only
    rw [if_pos ⟨by simpa using hb, by omega, hx⟩]
    simp
  · have ht := ht hl
    have hlt := (List.getElem?_eq_some_iff.1 ht).1
    refine ⟨t, st.tips.set t (l.length + 1), ?_, by simp, fun u hu h => ?_, by simp [hlt], .inl ⟨hl, rfl⟩⟩
    · unfold grl appV
      have hne : l ++ [x] ≠ [] := by simp
      rw [if_neg hl, if_neg hne]
      have h1 : vw sz st (.d (.sl 1 true (c x))) = some (1, c x) := rfl
      simp only [h1]
      rw [if_pos ⟨trivial, by omega, ht, map_flat_len hc l, hb, hn, hx⟩]
      simp
    · rcases h with h | h
      · exact absurd h hl
      · rw [List.getElem?_set, if_neg (fun e => h e.symm)]
/-- How long a name's lists are: of functions (false), of tables (true). -/
def usd (G : Gth) (n : Byt8) : Bool → Nat
  | false => (getN' n G).fs.length
  | true => (getN' n G).ts.length
def knV (k : Kn) (a b : Nat) : List V := [grl Bnd.cells 3 k.fs a, grl TbS.cells 5 k.ts b, .d (.b k.ex)]
structure GI (m : Nat) (G : Gth) (R : Byt8 → Nat) (T : Byt8 → Bool → Nat) (P : List (Nat × List V)) (st : St) : Prop where
  fl : st.floor = 0
  tf : st.tfloor = 0
  mp : st.mapOf m = some ((keysN G).map fun n => (.s n, .ptr (R n) 0))
  nd : (keysN G).Nodup
  row : ∀ n ∈ keysN G, st.row (R n) = some (knV (getN' n G) (T n false) (T n true))
  inj : ∀ n ∈ keysN G, ∀ n' ∈ keysN G, R n = R n' → n = n'
  tk : ∀ n b, usd G n b ≠ 0 → st.tips[T n b]? = some (usd G n b)
  ti : ∀ n b n' b', usd G n b ≠ 0 → usd G n' b' ≠ 0 → T n b = T n' b' → n = n' ∧ b = b'
  pv : ∀ x ∈ P, st.row x.1 = some x.2 ∧ ∀ n ∈ keysN G, x.1 ≠ R n
def GS (m : Nat) (G : Gth) (P : List (Nat × List V)) (st : St) : Prop := ∃ R T, GI m G R T P st
def GP (m : Nat) (G : Gth) (P : List (Nat × List V)) (n : Byt8) (p : Nat) (st : St) : Prop := ∃ R T, GI m G R T P st ∧ n ∈ keysN G ∧ p = R n
theorem GP.gs {m : Nat} {G : Gth} {P : List (Nat × List V)} {n : Byt8} {p : Nat} {st : St} (h : GP m G P n p st) : GS m G P st := by
  obtain ⟨R, T, h, _⟩ := h
  exact ⟨R, T, h⟩
theorem get_not {n : Byt8} : ∀ {G : Gth}, n ∉ keysN G → getN' n G = kn0
  | [], _ => rfl
  | (k, v) :: r, h => by
    simp only [keysN, List.map_cons, List.mem_cons, not_or] at h
    rw [getN', if_neg (fun e => h.1 e.symm)]
    exact get_not (G := r) h.2
theorem keys_upd (n : Byt8) (f : Kn → Kn) : ∀ (G : Gth), keysN (updN n f G) = if n ∈ keysN G then keysN G else keysN G ++ [n]
  | [] => by simp [updN, keysN]
  | (k, v) :: r => by
    have ih := keys_upd n f r
    have hc : ∀ (x : Byt8) (y : Kn) (l : Gth), keysN ((x, y) :: l) = x :: keysN l := fun _ _ _ => rfl
    by_cases h : k = n
    · subst h
      rw [updN, if_pos rfl, hc, hc, if_pos List.mem_cons_self]
    · rw [updN, if_neg h, hc, hc, ih]
      by_cases hh : n ∈ keysN r
      · rw [if_pos hh, if_pos (List.mem_cons_of_mem _ hh)]
      · rw [if_neg hh, if_neg, List.cons_append]
        rw [List.mem_cons]
        rintro (e | e)
        · exact h e.symm
        · exact hh e
theorem upd_upd (n : Byt8) (f : Kn → Kn) : ∀ (G : Gth), updN n f (updN n id G) = updN n f G
  | [] => by simp [updN]
  | (k, v) :: r => by
    have ih := upd_upd n f r
    by_cases h : k = n
    · simp [updN, h]
    · simp [updN, h, ih]
theorem get_upd_id (n m : Byt8) (G : Gth) : getN' m (updN n id G) = getN' m G := by
  rw [get_upd]
  split
  · rename_i h
    rw [h, id]
  · rfl
theorem usd_upd_id (n m : Byt8) (b : Bool) (G : Gth) : usd (updN n id G) m b = usd G m b := by
  cases b <;> simp only [usd, get_upd_id]
section
variable {m : Nat} {G : Gth} {P : List (Nat × List V)} {st st' : St}
/-- What does not touch it. -/
theorem GI.kp {R : Byt8 → Nat} {T : Byt8 → Bool → Nat} (h : GI m G R T P st) {A B : Nat → Prop} (k : Kp st st' A B) (hm : ¬ A m) (hR : ∀ n ∈ keysN G, ¬ A (R n)) (hT : ∀ n b, usd G n b ≠ 0 → ¬ B (T n b)) (hP : ∀ x ∈ P, ¬ A x.1) : GI m G R T P st' :=
  ⟨k.floor.trans h.fl, k.tfloor.trans h.tf, (map_of_heap (k.heap m (map_lt h.mp) hm)).trans h.mp, h.nd, fun n hn => (row_of_heap (k.heap _ (row_lt (h.row n hn)) (hR n hn))).trans (h.row n hn), h.inj,
    fun n b hu => (k.tips _ (List.getElem?_eq_some_iff.1 (h.tk n b hu)).1 (hT n b hu)).trans (h.tk n b hu), h.ti, fun x hx => ⟨(row_of_heap (k.heap _ (row_lt (h.pv x hx).1) (hP x hx))).trans (h.pv x hx).1, (h.pv x hx).2⟩⟩
theorem GS.push (h : GS m G P st) (cs : List V) : GS m G ((st.heap.length, cs) :: P) (st.push (.row cs)) := by
  obtain ⟨R, T, h⟩ := h
  have h' := h.kp (A := fun _ => False) (B := fun _ => False) (.push (.row cs)) (fun e => e) (fun _ _ e => e) (fun _ _ _ e => e) (fun _ _ e => e)
  refine ⟨R, T, h'.fl, h'.tf, h'.mp, h'.nd, h'.row, h'.inj, h'.tk, h'.ti, ?_⟩
  intro x hx
  rcases List.mem_cons.1 hx with rfl | hx
  · exact ⟨row_push_new rfl, fun n hn e => by have := row_lt (h.row n hn); simp only at e; omega⟩
  · exact h'.pv x hx
theorem GS.sub {P' : List (Nat × List V)} (h : GS m G P st) (hs : ∀ x ∈ P', x ∈ P) : GS m G P' st := by
  obtain ⟨R, T, h⟩ := h
  exact ⟨R, T, h.fl, h.tf, h.mp, h.nd, h.row, h.inj, h.tk, h.ti, fun x hx => h.pv x (hs x hx)⟩
theorem GS.fl (h : GS m G P st) : st.floor = 0 := by
  obtain ⟨R, T, h⟩ := h
  exact h.fl
theorem GS.tf (h : GS m G P st) : st.tfloor = 0 := by
  obtain ⟨R, T, h⟩ := h
  exact h.tf
theorem GS.pr (h : GS m G P st) {i : Nat} {cs : List V} (hx : (i, cs) ∈ P) : st.row i = some cs := by
  obtain ⟨R, T, h⟩ := h
  exact (h.pv _ hx).1
theorem GS.prlt (h : GS m G P st) {i : Nat} {cs : List V} (hx : (i, cs) ∈ P) : i < st.heap.length := row_lt (h.pr hx)
theorem find_keys (n : Byt8) (R : Byt8 → Nat) : ∀ (l : List Byt8), findE (.s n) (l.map fun n => (D.s n, V.ptr (R n) 0)) = some (if n ∈ l then some (.ptr (R n) 0) else none)
  | [] => by simp [findE]
  | k :: r => by
    rw [List.map_cons, findE]
    by_cases h : n = k
    · subst h
      simp [eqD]
    · have h' : (n == k) = false := by simpa using h
      simp [eqD, h', find_keys n R r, h]
theorem set_keys (n : Byt8) (R : Byt8 → Nat) (v : V) : ∀ (l : List Byt8), n ∉ l → setE (.s n) v (l.map fun n => (D.s n, V.ptr (R n) 0)) = some (l.map (fun n => (D.s n, V.ptr (R n) 0)) ++ [(.s n, v)])
  | [], _ => by simp [setE]
  | k :: r, h => by
    rw [List.mem_cons, not_or] at h
    have h' : (n == k) = false := by simpa using h.1
    rw [List.map_cons, setE]
    simp [eqD, h', set_keys n R v r h.2]
def nmFns : List (Nat × SFn) := [(331, F331_names_gathered), (344, F344_names_gathered_1), (320, F320_names_Merge), (332, F332_maps_Keys_map_string_names_known_string_names_known), (334, F334_names_known_twice), (335, F335_names_known_undefined), (336, F336_names_known_shapes), (346, F346_names_known_shapes_1), (347, F347_slices_ContainsFunc_api_TableDef_api_TableDef), (349, F349_slices_IndexFunc_api_TableDef_api_TableDef)]
theorem den_at {pr : Prog} (hp : Sub nmFns pr) (h : GS m G P st) {b : Nat} (hb : (b, [.map m]) ∈ P) (n : Byt8) : ∃ p st', den pr 344 [.d (.s n), .ptr b 0] st = some (.ptr p 0, st') ∧ GP m (updN n id G) P n p st' := by
  obtain ⟨R, T, h⟩ := h
  have hbr := (h.pv _ hb).1
  simp only at hbr
  have hfl := h.fl
  by_cases hn : n ∈ keysN G
  · have hf := find_keys n R (keysN G)
    rw [if_pos hn] at hf
    refine ⟨R n, st, ?_, R, T, ?_, ?_, rfl⟩
    · rw [den_fn (hp.at 1 rfl) rfl rfl, start_raw _ rfl]
      simp [F344_names_gathered_1, hbr, lookV, keyOk, h.mp, hf, lookOut, zeroV, eqV]
    · have hk : keysN (updN n id G) = keysN G := by rw [keys_upd, if_pos hn]
      refine ⟨h.fl, h.tf, by rw [hk]; exact h.mp, by rw [hk]; exact h.nd, fun n' hn' => ?_, by rw [hk]; exact h.inj, fun n' b' hu => ?_, fun n1 b1 n2 b2 h1 h2 => ?_, by rw [hk]; exact h.pv⟩
      · rw [hk] at hn'
        rw [get_upd_id]
        exact h.row n' hn'
      · rw [usd_upd_id] at hu ⊢
        exact h.tk n' b' hu
      · rw [usd_upd_id] at h1 h2
        exact h.ti n1 b1 n2 b2 h1 h2
    · rw [keys_upd, if_pos hn]
      exact hn
  · have hf := find_keys n R (keysN G)
    rw [if_neg hn] at hf
    have hset := set_keys n R (.ptr st.heap.length 0) (keysN G) hn
    have hlm := map_lt h.mp
    have hlb := row_lt hbr
    obtain ⟨s1, hs1⟩ : ∃ s1, s1 = st.push (.row (knV kn0 0 0)) := ⟨_, rfl⟩
    obtain ⟨s2, hs2⟩ : ∃ s2, s2 = s1.putM m ((keysN G).map (fun n => (D.s n, V.ptr (R n) 0)) ++ [(.s n, .ptr st.heap.length 0)]) := ⟨_, rfl⟩
    have hlen1 : s1.heap.length = st.heap.length + 1 := by rw [hs1]; simp
    have hm1 : s1.mapOf m = some ((keysN G).map fun n => (D.s n, V.ptr (R n) 0)) := by rw [hs1, mapOf_old hlm]; exact h.mp
    have hf1 : s1.floor = 0 := by rw [hs1]; exact h.fl
    have hset1 := setBlk_putM (st := s1) (id := m) (es := (keysN G).map (fun n => (D.s n, V.ptr (R n) 0)) ++ [(.s n, .ptr st.heap.length 0)]) hf1
    rw [← hs2] at hset1
    have hm2 : s2.mapOf m = some ((keysN G).map (fun n => (D.s n, V.ptr (R n) 0)) ++ [(.s n, .ptr st.heap.length 0)]) := by rw [hs2]; exact mapOf_putM (by omega)
    have hbm : b ≠ m := row_map_ne hbr h.mp
    have hb1 : s1.row b = some [.map m] := by rw [hs1, row_old hlb]; exact hbr
    have hb2 : s2.row b = some [.map m] := by rw [hs2, row_putM hbm]; exact hb1
    obtain ⟨R', hR'⟩ : ∃ R' : Byt8 → Nat, ∀ x, R' x = if x = n then st.heap.length else R x := ⟨_, fun _ => rfl⟩
    have hRn : R' n = st.heap.length := by rw [hR', if_pos rfl]
    have hRo : ∀ x ∈ keysN G, R' x = R x := fun x hx => by rw [hR', if_neg]; rintro rfl; exact hn hx
    have hmm : (keysN G).map (fun n => (D.s n, V.ptr (R n) 0)) ++ [(.s n, .ptr st.heap.length 0)] = (keysN (updN n id G)).map fun n => (D.s n, V.ptr (R' n) 0) := by
      rw [keys_upd, if_neg hn, List.map_append, List.map_cons, List.map_nil, hRn]
      congr 1
      exact List.map_congr_left fun x hx => by rw [hRo x hx]
    have hf2 : findE (.s n) ((keysN G).map (fun n => (D.s n, V.ptr (R n) 0)) ++ [(.s n, .ptr st.heap.length 0)]) = some (some (.ptr st.heap.length 0)) := by
      rw [hmm, find_keys, if_pos, hRn]
      rw [keys_upd, if_neg hn]
      simp
    refine ⟨st.heap.length, s2, ?_, R', T, ?_, ?_, hRn.symm⟩
    · rw [den_fn (hp.at 1 rfl) rfl rfl, start_raw _ rfl]
      have hpush : st.push (.row [.d (.sl 0 false []), .d (.sl 0 false []), .d (.b false)]) = s1 := by rw [hs1]; rfl
      simp [F344_names_gathered_1, hbr, lookV, keyOk, h.mp, hf, lookOut, zeroV, eqV, ofDs, fillV, hpush, hb1, mapSetV, hm1, hset, hset1, hb2, hm2, hf2]
    · have hk : keysN (updN n id G) = keysN G ++ [n] := by rw [keys_upd, if_neg hn]
      have k1 : Kp st s1 (fun _ => False) (fun _ => False) := by rw [hs1]; exact .push _
      have k2 : Kp s1 s2 (fun i => i = m) (fun _ => False) := by rw [hs2]; exact .putM rfl
      have kk := (k1.mono (fun _ _ e => e.elim) fun _ _ e => e).trans k2
      have hro : ∀ i cs, st.row i = some cs → s2.row i = some cs := fun i cs hi => (row_of_heap (kk.heap i (row_lt hi) (row_map_ne hi h.mp))).trans hi
      have hrn : s2.row st.heap.length = some (knV kn0 0 0) := by
        rw [hs2, row_putM (by omega), hs1]
        exact row_push_new rfl
      refine ⟨kk.floor.trans h.fl, kk.tfloor.trans h.tf, by rw [hm2, hmm], nodup_upd _ _ h.nd, fun n' hn' => ?_, fun n1 h1 n2 h2 e => ?_, fun n' b' hu => ?_, fun n1 b1 n2 b2 h1 h2 => ?_, fun x hx => ⟨hro _ _ (h.pv x hx).1, fun n' hn' => ?_⟩⟩
      · rw [get_upd_id]
        rw [hk, List.mem_append, List.mem_singleton] at hn'
        rcases hn' with hn' | rfl
        · rw [hRo n' hn']
          exact hro _ _ (h.row n' hn')
        · rw [hRn, get_not hn, hrn]
          rfl
      · rw [hk, List.mem_append, List.mem_singleton] at h1 h2
        rcases h1 with h1 | rfl
        · rcases h2 with h2 | rfl
          · rw [hRo n1 h1, hRo n2 h2] at e
            exact h.inj n1 h1 n2 h2 e
          · rw [hRo n1 h1, hRn] at e
            have := row_lt (h.row n1 h1)
            omega
        · rcases h2 with h2 | rfl
          · rw [hRo n2 h2, hRn] at e
            have := row_lt (h.row n2 h2)
            omega
          · rfl
      · rw [usd_upd_id] at hu ⊢
        exact (kk.tips _ (List.getElem?_eq_some_iff.1 (h.tk n' b' hu)).1 (fun e => e)).trans (h.tk n' b' hu)
      · rw [usd_upd_id] at h1 h2
        exact h.ti n1 b1 n2 b2 h1 h2
      · rw [hk, List.mem_append, List.mem_singleton] at hn'
        rcases hn' with hn' | rfl
        · rw [hRo n' hn']
          exact (h.pv x hx).2 n' hn'
        · rw [hRn]
          have := row_lt (h.pv x hx).1
          omega
    · rw [keys_upd, if_neg hn]
      simp
end
end Go.Sh
