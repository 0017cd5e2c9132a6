/- String tables as plain lists: names one behind the other, each with a zero behind it. -/
import Derived.Test.YtpgipjjhapapjaaShBe
import Derived.Test.YtpgipjjhapapjaaShFstrs
import Derived.Test.YtpgipjjhapapjaaShFstrings
import Derived.Test.YtpgipjjhapapjaaShFslices
import Derived.Test.YtpgipjjhapapjaaShFcmp
set_option linter.unusedVariables false
set_option linter.unusedSimpArgs false
namespace Go.Sh
abbrev Nm := List UInt8
def okNm (s : Nm) : Bool := decide (0 < s.length) && decide (s.length ≤ 64) && !s.contains 0
/-- Where names end that stand one behind the other from a on. -/
def endAt (a : Nat) : List Nm → Nat
  | [] => a
  | s :: r => endAt (a + s.length + 1) r
def plcs (a : Nat) : List Nm → List Nat
  | [] => []
  | s :: r => a :: plcs (a + s.length + 1) r
def findNm (s : Nm) (a : Nat) : List Nm → Option Nat
  | [] => none
  | x :: r => if x = s then some a else findNm s (a + x.length + 1) r
def tabB (ns : List Nm) : List UInt8 := 0 :: (ns.map (· ++ [0])).flatten
theorem endAt_app {a : Nat} : ∀ {ns r : List Nm}, endAt a (ns ++ r) = endAt (endAt a ns) r := by
  intro ns
  induction ns generalizing a with
  | nil => intro r; rfl
  | cons x ns ih => intro r; exact ih
theorem endAt_ge {a : Nat} {ns : List Nm} : a + ns.length ≤ endAt a ns := by
  induction ns generalizing a with
  | nil => exact Nat.le_refl _
  | cons x ns ih =>
    have := ih (a := a + x.length + 1)
    simp only [endAt, List.length_cons]
    omega
theorem endAt_snoc {a : Nat} {ns : List Nm} {s : Nm} : endAt a (ns ++ [s]) = endAt a ns + s.length + 1 := by rw [endAt_app]; rfl
theorem plcs_len {a : Nat} {ns : List Nm} : (plcs a ns).length = ns.length := by
  induction ns generalizing a with
  | nil => rfl
  | cons x ns ih => simp [plcs, ih]
theorem plcs_app {a : Nat} : ∀ {ns r : List Nm}, plcs a (ns ++ r) = plcs a ns ++ plcs (endAt a ns) r := by
  intro ns
  induction ns generalizing a with
  | nil => intro r; rfl
  | cons x ns ih => intro r; simp only [List.cons_append, plcs, endAt, ih]
theorem findNm_app {s : Nm} {a : Nat} {ns r : List Nm} : findNm s a (ns ++ r) = (findNm s a ns).or (findNm s (endAt a ns) r) := by
  induction ns generalizing a with
  | nil => simp [findNm, endAt]
  | cons x ns ih =>
    simp only [List.cons_append, findNm, endAt]
    split
    · simp
    · exact ih
theorem findNm_none {s : Nm} {a : Nat} {ns : List Nm} : findNm s a ns = none ↔ s ∉ ns := by
  induction ns generalizing a with
  | nil => simp [findNm]
  | cons x ns ih =>
    simp only [findNm, List.mem_cons, not_or]
    split
    · rename_i h
      simp [h]
    · rename_i h
      rw [ih]
      exact ⟨fun hn => ⟨fun e => h e.symm, hn⟩, fun hn => hn.2⟩
theorem findNm_some {s : Nm} {a q : Nat} {ns : List Nm} (h : findNm s a ns = some q) : ∃ i, ns[i]? = some s ∧ q = endAt a (ns.take i) := by
  induction ns generalizing a with
  | nil => simp [findNm] at h
  | cons x ns ih =>
    simp only [findNm] at h
    split at h
    · rename_i hx
      simp only [Option.some.injEq] at h
      exact ⟨0, by simp [hx], by simp [endAt, h]⟩
    · obtain ⟨i, h1, h2⟩ := ih h
      exact ⟨i + 1, by simpa using h1, by simpa [endAt] using h2⟩
theorem tabB_len {ns : List Nm} : (tabB ns).length = endAt 1 ns := by
  have : ∀ (ns : List Nm) a, (ns.map (· ++ [(0 : UInt8)])).flatten.length + a = endAt a ns := by
    intro ns
    induction ns with
    | nil => intro a; simp [endAt]
    | cons x ns ih =>
      intro a
      simp only [List.map_cons, List.flatten_cons, List.length_append, List.length_cons, List.length_nil, endAt, ← ih]
      omega
  rw [← this ns 1]
  simp [tabB]
theorem tabB_snoc {ns : List Nm} {s : Nm} : tabB (ns ++ [s]) = tabB ns ++ (s ++ [0]) := by simp [tabB]
/-! ### Reading -/
def toZero (r : List UInt8) : Nm := r.takeWhile (· != 0)
theorem toZero_take (r : List UInt8) : r.take (toZero r).length = toZero r := by
  unfold toZero
  induction r with
  | nil => rfl
  | cons x r ih =>
    rw [List.takeWhile_cons]
    split
    · simpa using ih
    · rfl
theorem toZero_zero {r : List UInt8} (h : (toZero r).length ≠ r.length) : r[(toZero r).length]? = some 0 := by
  unfold toZero at h ⊢
  induction r with
  | nil => simp at h
  | cons x r ih =>
    rw [List.takeWhile_cons] at h ⊢
    split
    · rename_i hx
      rw [if_pos hx] at h
      simp only [List.length_cons, ne_eq, Nat.add_right_cancel_iff] at h
      simpa using ih h
    · rename_i hx
      have : x = 0 := by simpa using hx
      simp [this]
theorem toZero_no (r : List UInt8) : (toZero r).contains 0 = false := by
  unfold toZero
  induction r with
  | nil => rfl
  | cons x r ih =>
    rw [List.takeWhile_cons]
    split
    · rename_i hx
      have : x ≠ 0 := by simpa using hx
      simp only [List.contains_cons, ih, Bool.or_false, beq_eq_false_iff_ne, ne_eq]
      exact fun e => this e.symm
    · rfl
theorem idx_zero (r : List UInt8) : Lib.indexByte r 0 = if (toZero r).length = r.length then -1 else ((toZero r).length : Int) := by
  induction r with
  | nil => rfl
  | cons x r ih =>
    unfold Lib.indexByte
    by_cases hx : x = 0
    · subst hx
      rfl
    · have h1 : (x == 0) = false := by simpa using hx
      have h2 : toZero (x :: r) = x :: toZero r := by
        unfold toZero
        rw [List.takeWhile_cons, if_pos (by simpa using hx)]
      rw [h1, h2, ih]
      simp only [Bool.false_eq_true, if_false, List.length_cons, Nat.add_right_cancel_iff]
      by_cases hl : (toZero r).length = r.length
      · simp [hl]
      · simp only [hl, if_false]
        have : (((toZero r).length : Int) == -1) = false := by
          rw [beq_eq_false_iff_ne]
          omega
        rw [this]
        simp
theorem idx_neg (s : List UInt8) : Lib.indexByte s 0 < 0 ↔ s.contains 0 = false := by
  rw [idx_zero]
  by_cases h : (toZero s).length = s.length
  · simp only [h, if_true]
    have : toZero s = s := by
      have := toZero_take s
      rw [h, List.take_length] at this
      exact this.symm
    have h2 := toZero_no s
    rw [this] at h2
    exact ⟨fun _ => h2, fun _ => by decide⟩
  · simp only [h, if_false]
    have h1 := toZero_zero h
    have h2 := List.mem_of_getElem? h1
    constructor
    · intro h; omega
    · intro h3
      simp only [List.contains_eq_mem, decide_eq_false_iff_not] at h3
      exact absurd h2 h3
end Go.Sh

/- String tables: names, places, looking for a place. -/
set_option linter.unusedVariables false
set_option linter.unusedSimpArgs false
namespace Go.Sh
def strsFns : List (Nat × SFn) := [(146, F146_strs_isName), (150, F150_strings_IndexByte), (151, F151_strings_Clone), (149, F149_slices_BinarySearch_int_int), (105, F105_cmp_Less_int), (115, F115_cmp_isNaN_int), (152, F152_slices_isNaN_int),
  (139, F139_strs_New), (147, F147_strs_Table_put), (140, F140_strs_Table_Add), (144, F144_strs_Table_At), (142, F142_strs_Table_Bytes), (143, F143_strs_Read)]
/-- Which functions are told by what they answer. -/
def SubP (l : List (Nat × (List V → St → Option V))) (pr : Prog) : Prop := ∀ x ∈ l, pr.fn x.1 = none ∧ pr.prim x.1 = some x.2
theorem SubP.den {l : List (Nat × (List V → St → Option V))} {pr : Prog} (h : SubP l pr) (i : Nat) {f : Nat} {g : List V → St → Option V} (hx : l[i]? = some (f, g)) {args : List V} {st : St} {v : V} (hg : g args st = some v) : den pr f args st = some (v, st) := by
  obtain ⟨h1, h2⟩ := h _ (List.mem_of_getElem? hx)
  exact den_prim h1 h2 hg
def strsPrims : List (Nat × (List V → St → Option V)) := [(153, pIdxS), (154, pCln), (148, pIdxB)]
section
variable {pr : Prog} (hp : Sub strsFns pr) (hq : SubP strsPrims pr) {st : St}
include hp hq
theorem den_idxStr (s : List UInt8) : den pr 150 [.d (.s s), .d (.i .u8 0)] st = some (.d (.i .i64 (Lib.indexByte s 0)), st) := by
  have h := fun st => hq.den 0 rfl (args := [.d (.s s), .d (.i .u8 0)]) (st := st) (v := .d (.i .i64 (Lib.indexByte s 0))) rfl
  exact den_shut (hp.at 1 rfl) rfl rfl (by simp; rfl) (by simp [F150_strings_IndexByte, h])
theorem den_clnStr (s : List UInt8) (hs : s.length ≤ 281474976710656) : den pr 151 [.d (.s s)] st = some (.d (.s s), st) := by
  have h := fun st => hq.den 1 rfl (args := [.d (.s s)]) (st := st) (v := .d (.s s)) (by simp [pCln, hs])
  exact den_shut (hp.at 2 rfl) rfl rfl (by simp; rfl) (by simp [F151_strings_Clone, h])
theorem den_isName (s : List UInt8) : den pr 146 [.d (.s s)] st = some (.d (.b (okNm s)), st) := by
  have h := fun st => den_idxStr hp hq (st := st) s
  have hn := idx_neg s
  refine den_shut (hp.at 0 rfl) rfl rfl (by simp; rfl) ?_
  by_cases h0 : s = []
  · subst h0
    simp [F146_strs_isName, okNm]
  · have hl : 0 < s.length := List.length_pos_iff.2 h0
    have he : s.isEmpty = false := by cases s <;> simp at h0 ⊢
    by_cases h1 : s.length ≤ 64
    · have h1' : (s.length : Int) ≤ 64 := by omega
      by_cases h2 : Lib.indexByte s 0 < 0
      · have h3 := hn.1 h2
        have h4 : okNm s = true := by unfold okNm; rw [h3]; simp [hl, h1]
        simp [F146_strs_isName, he, h1', h, h2, h4]
      · have h3 : s.contains 0 = true := by
          cases hc : s.contains 0 with
          | false => exact absurd (hn.2 hc) h2
          | true => rfl
        have h4 : okNm s = false := by unfold okNm; rw [h3]; simp
        simp [F146_strs_isName, he, h1', h, h2, h4]
    · have h1' : ¬ (s.length : Int) ≤ 64 := by omega
      have h4 : okNm s = false := by unfold okNm; simp [h1]
      simp [F146_strs_isName, he, h1', h4]
end
end Go.Sh

/- String tables: the table in the heap; New, put, Add. -/
set_option linter.unusedVariables false
set_option linter.unusedSimpArgs false
namespace Go.Sh
@[simp] theorem row_mk {st : St} {T : List Nat} {f g i : Nat} : (⟨st.heap, T, f, g⟩ : St).row i = st.row i := rfl
@[simp] theorem mapOf_mk {st : St} {T : List Nat} {f g i : Nat} : (⟨st.heap, T, f, g⟩ : St).mapOf i = st.mapOf i := rfl
@[simp] theorem map_cs {id : Nat} : V.cs (.map id) = [.map id] := rfl
@[simp] theorem map_ok1 {id : Nat} : V.ok1 (.map id) = true := rfl
/-- What has come of a state: blocks outside R and tokens outside T stay. -/
structure Kp (st st' : St) (R T : Nat → Prop) : Prop where
  floor : st'.floor = st.floor
  tfloor : st'.tfloor = st.tfloor
  hlen : st.heap.length ≤ st'.heap.length
  tlen : st.tips.length ≤ st'.tips.length
  heap : ∀ i, i < st.heap.length → ¬ R i → st'.heap[i]? = st.heap[i]?
  tips : ∀ t, t < st.tips.length → ¬ T t → st'.tips[t]? = st.tips[t]?
theorem Kp.refl (st : St) (R T : Nat → Prop) : Kp st st R T := ⟨rfl, rfl, Nat.le_refl _, Nat.le_refl _, fun _ _ _ => rfl, fun _ _ _ => rfl⟩
theorem Kp.trans {a b c : St} {R T : Nat → Prop} (h : Kp a b R T) (k : Kp b c R T) : Kp a c R T :=
  ⟨k.floor.trans h.floor, k.tfloor.trans h.tfloor, Nat.le_trans h.hlen k.hlen, Nat.le_trans h.tlen k.tlen,
    fun i hi hn => (k.heap i (Nat.lt_of_lt_of_le hi h.hlen) hn).trans (h.heap i hi hn), fun t ht hn => (k.tips t (Nat.lt_of_lt_of_le ht h.tlen) hn).trans (h.tips t ht hn)⟩
theorem Kp.mono {a b : St} {R T R' T' : Nat → Prop} (h : Kp a b R T) (hR : ∀ i, i < a.heap.length → R i → R' i) (hT : ∀ t, t < a.tips.length → T t → T' t) : Kp a b R' T' :=
  ⟨h.floor, h.tfloor, h.hlen, h.tlen, fun i hi hn => h.heap i hi fun hr => hn (hR i hi hr), fun t ht hn => h.tips t ht fun hr => hn (hT t ht hr)⟩
theorem row_of_heap {a b : St} {i : Nat} (h : b.heap[i]? = a.heap[i]?) : b.row i = a.row i := by unfold St.row; rw [h]
theorem map_of_heap {a b : St} {i : Nat} (h : b.heap[i]? = a.heap[i]?) : b.mapOf i = a.mapOf i := by unfold St.mapOf; rw [h]
theorem map_lt {st : St} {i : Nat} {es : List (D × V)} (h : st.mapOf i = some es) : i < st.heap.length := by
  unfold St.mapOf at h
  split at h
  · rename_i hc
    exact (List.getElem?_eq_some_iff.1 hc).1
  · cases h
theorem row_map_ne {st : St} {i j : Nat} {cs : List V} {es : List (D × V)} (h : st.row i = some cs) (h' : st.mapOf j = some es) : i ≠ j := by
  rintro rfl
  unfold St.row at h
  unfold St.mapOf at h'
  split at h
  · rename_i hc
    rw [hc] at h'
    simp at h'
  · cases h
/-- A map written over. -/
def St.putM (st : St) (id : Nat) (es : List (D × V)) : St := { st with heap := st.heap.set id (some (.map es)) }
section
variable {st : St} {id j : Nat} {es : List (D × V)} {cs : List V}
theorem setBlk_putM (h : st.floor = 0) : st.setBlk id (.map es) = some (st.putM id es) := by
  unfold St.setBlk
  rw [if_pos (by omega)]
  rfl
theorem Kp.put {R T : Nat → Prop} (h : R id) : Kp st (st.put id cs) R T := by
  refine ⟨rfl, rfl, by simp, Nat.le_refl _, fun i hi hn => ?_, fun _ _ _ => rfl⟩
  unfold St.put
  simp only [List.getElem?_set]
  rw [if_neg (fun e => hn (by rw [← e]; exact h))]
theorem Kp.putM {R T : Nat → Prop} (h : R id) : Kp st (st.putM id es) R T := by
  refine ⟨rfl, rfl, by simp [St.putM], Nat.le_refl _, fun i hi hn => ?_, fun _ _ _ => rfl⟩
  unfold St.putM
  simp only [List.getElem?_set]
  rw [if_neg (fun e => hn (by rw [← e]; exact h))]
theorem Kp.push {R T : Nat → Prop} (b : Blk) : Kp st (st.push b) R T := by
  refine ⟨rfl, rfl, by simp, Nat.le_refl _, fun i hi hn => ?_, fun _ _ _ => rfl⟩
  simp only [St.push]
  rw [List.getElem?_append_left hi]
theorem mapOf_putM (h : id < st.heap.length) : (st.putM id es).mapOf id = some es := by simp [St.mapOf, St.putM, h]
theorem row_putM (h : j ≠ id) : (st.putM id es).row j = st.row j := by
  refine row_of_heap ?_
  unfold St.putM
  simp only [List.getElem?_set]
  rw [if_neg (fun e => h e.symm)]
theorem mapOf_put (h : j ≠ id) : (st.put id cs).mapOf j = st.mapOf j := by
  refine map_of_heap ?_
  unfold St.put
  simp only [List.getElem?_set]
  rw [if_neg (fun e => h e.symm)]
theorem mapOf_old {b : Blk} (h : j < st.heap.length) : (st.push b).mapOf j = st.mapOf j := by
  refine map_of_heap ?_
  simp only [St.push]
  rw [List.getElem?_append_left h]
theorem mapOf_push_new : (st.push (.map es)).mapOf st.heap.length = some es := by simp [St.mapOf, St.push]
end
/-- A list that grows, of cells of one; its token. -/
def NL (st : St) (v : V) (t : Nat) (cs : List D) : Prop := (cs = [] ∧ v = .d (.sl 0 false [])) ∨ (cs ≠ [] ∧ v = .own 1 cs.length true cs t ∧ st.tips[t]? = some cs.length ∧ st.tfloor = 0)
section
variable {st st' : St} {v : V} {t : Nat} {cs : List D} {R T : Nat → Prop}
theorem NL.one (h : NL st v t cs) : v.ok1 = true ∧ v.cs = [v] := by
  rcases h with ⟨_, rfl⟩ | ⟨_, rfl, _⟩ <;> exact ⟨rfl, rfl⟩
theorem NL.lt (h : NL st v t cs) (hc : cs ≠ []) : t < st.tips.length := by
  rcases h with ⟨h, _⟩ | ⟨_, _, h, _⟩
  · exact absurd h hc
  · exact (List.getElem?_eq_some_iff.1 h).1
theorem NL.keep (h : NL st v t cs) (k : Kp st st' R T) (ht : cs ≠ [] → ¬ T t) : NL st' v t cs := by
  rcases h with h | ⟨h0, h1, h2, h3⟩
  · exact .inl h
  · exact .inr ⟨h0, h1, (k.tips t (List.getElem?_eq_some_iff.1 h2).1 (ht h0)).trans h2, k.tfloor.trans h3⟩
theorem NL.c (h : NL st v t cs) : SlC 1 v (cs.map fun d => [d]) := by
  have hf : (cs.map fun d => [d]).flatten = cs := by
    clear h
    induction cs with
    | nil => rfl
    | cons a r ih => simpa using ih
  have h1 : ∀ x ∈ cs.map fun d => [d], x.length = 1 := by
    intro x hx
    simp only [List.mem_map] at hx
    obtain ⟨_, _, rfl⟩ := hx
    rfl
  rcases h with ⟨rfl, rfl⟩ | ⟨_, rfl, _⟩
  · exact .of_sl h1 rfl rfl
  · exact .of_own h1 (by simp) hf.symm
theorem NL.len (h : NL st v t cs) : lenV v = some cs.length := by
  rcases h with ⟨rfl, rfl⟩ | ⟨_, rfl, _⟩ <;> rfl
theorem NL.get (h : NL st v t cs) {i : Nat} {x : D} (hx : cs[i]? = some x) {k : IntKind} : iaddrV 1 v (.d (.i k (i : Int))) = some (.ep (cs.drop i)) ∧ ∀ s, loadV 1 false s (.ep (cs.drop i)) = some (.d x) := by
  have hlt := (List.getElem?_eq_some_iff.1 hx).1
  have hd : cs.drop i = x :: cs.drop (i + 1) := by rw [List.drop_eq_getElem_cons hlt, (List.getElem?_eq_some_iff.1 hx).2]
  refine ⟨?_, fun s => ?_⟩
  · rcases h with ⟨rfl, rfl⟩ | ⟨_, rfl, _⟩
    · simp at hlt
    · simp [iaddrV, hlt]
  · rw [hd]
    simp [loadV, mkV, ofDs]
/-- One more. -/
theorem NL.app (h : NL st v t cs) (htf : st.tfloor = 0) {x : D} {by' : Nat} (hb : (cs.length + 1) * by' ≤ 140737488355328) (hn : cs.length + 1 ≤ 140737488355328) :
    ∃ v' t' s1, appV 1 by' st v (.d (.sl 1 true [x])) = some (v', s1) ∧ NL s1 v' t' (cs ++ [x]) ∧ s1.heap = st.heap ∧ Kp st s1 (fun _ => False) (fun u => cs ≠ [] ∧ u = t) ∧ ((cs ≠ [] ∧ t' = t) ∨ t' = st.tips.length) := by
  rcases h with ⟨rfl, rfl⟩ | ⟨h0, rfl, h2, h3⟩
  · have hb' : by' ≤ 140737488355328 := by simpa using hb
    refine ⟨.own 1 1 true [x] st.tips.length, st.tips.length, { st with tips := st.tips ++ [1] }, ?_, .inr ⟨by simp, rfl, by simp, htf⟩, rfl, ⟨rfl, rfl, Nat.le_refl _, by simp, fun _ _ _ => rfl, fun u hu _ => ?_⟩, .inr rfl⟩
    · simp [appV, vw, hb']
    · simp only
      rw [List.getElem?_append_left hu]
  · have hlt := (List.getElem?_eq_some_iff.1 h2).1
    refine ⟨.own 1 (cs.length + 1) true (cs ++ [x]) t, t, { st with tips := st.tips.set t (cs.length + 1) }, ?_, .inr ⟨by simp, by simp, by simp [hlt], htf⟩, rfl, ⟨rfl, rfl, Nat.le_refl _, by simp, fun _ _ _ => rfl, fun u hu hn => ?_⟩, .inl ⟨h0, rfl⟩⟩
    · have h4 : st.tfloor ≤ t := by omega
      simp [appV, vw, h2, h4, hb, hn]
    · simp only [List.getElem?_set]
      rw [if_neg (fun e => hn ⟨h0, e.symm⟩)]
end
def ents (a : Nat) : List Nm → List (D × V)
  | [] => []
  | s :: r => (.s s, .d (.i .i64 (a : Nat))) :: ents (a + s.length + 1) r
theorem findE_ents (s : Nm) : ∀ (ns : List Nm) (a : Nat), findE (.s s) (ents a ns) = some ((findNm s a ns).map fun q => V.d (.i .i64 (q : Nat)))
  | [], a => rfl
  | x :: r, a => by
    simp only [ents, findE, eqD, findNm]
    by_cases h : x = s
    · subst h
      simp
    · have h' : (s == x) = false := by simpa using fun e => h e.symm
      simp only [h', if_neg h]
      exact findE_ents s r _
theorem setE_ents (s : Nm) : ∀ (ns : List Nm) (a : Nat), s ∉ ns → setE (.s s) (.d (.i .i64 (endAt a ns : Nat))) (ents a ns) = some (ents a (ns ++ [s]))
  | [], a, _ => rfl
  | x :: r, a, h => by
    simp only [List.mem_cons, not_or] at h
    have h' : (s == x) = false := by simpa using h.1
    simp only [ents, setE, eqD, h', endAt, List.cons_append]
    rw [setE_ents s r _ h.2]
    rfl
/-- A table in the heap: its block p, its map m, the tokens of its lists. -/
structure Tbl (st : St) (p m tn tp : Nat) (ns : List Nm) : Prop where
  fl : st.floor = 0
  tf : st.tfloor = 0
  row : ∃ vN vP, st.row p = some [vN, vP, .map m, .d (.i .i64 (endAt 1 ns : Nat))] ∧ NL st vN tn (ns.map .s) ∧ NL st vP tp ((plcs 1 ns).map fun (a : Nat) => .i .i64 (a : Int))
  map : st.mapOf m = some (ents 1 ns)
  tt : ns ≠ [] → tn ≠ tp
  nd : ns.Nodup
  ok : ∀ s ∈ ns, okNm s = true
theorem Tbl.plt {st : St} {p m tn tp : Nat} {ns : List Nm} (h : Tbl st p m tn tp ns) : p < st.heap.length := by
  obtain ⟨_, _, h1, _⟩ := h.row
  exact row_lt h1
theorem plcs_ne {a : Nat} {ns : List Nm} (h : ns ≠ []) : plcs a ns ≠ [] := by
  cases ns with
  | nil => exact absurd rfl h
  | cons x r => simp [plcs]
theorem Tbl.keep {st st' : St} {p m tn tp : Nat} {ns : List Nm} {R T : Nat → Prop} (h : Tbl st p m tn tp ns) (k : Kp st st' R T) (hp : ¬ R p) (hm : ¬ R m) (ht : ns ≠ [] → ¬ T tn ∧ ¬ T tp) : Tbl st' p m tn tp ns := by
  obtain ⟨vN, vP, h1, h2, h3⟩ := h.row
  refine ⟨k.floor.trans h.fl, k.tfloor.trans h.tf, ⟨vN, vP, (row_of_heap (k.heap p (row_lt h1) hp)).trans h1, h2.keep k fun hc => (ht fun e => hc (by simp [e])).1, h3.keep k fun hc => (ht fun e => hc (by simp [e, plcs])).2⟩, (map_of_heap (k.heap m (map_lt h.map) hm)).trans h.map, h.tt, h.nd, h.ok⟩
/-- Which blocks and tokens are a table's. -/
def TR (p m : Nat) : Nat → Prop := fun i => i = p ∨ i = m
def TT (tn tp : Nat) (ns : List Nm) : Nat → Prop := fun t => ns ≠ [] ∧ (t = tn ∨ t = tp)
section
variable {pr : Prog} (hp : Sub strsFns pr) (hq : SubP strsPrims pr) {st : St}
include hp
theorem den_New (hfl : st.floor = 0) (htf : st.tfloor = 0) : ∃ st', den pr 139 [] st = some (.ptr (st.heap.length + 1) 0, st') ∧ Tbl st' (st.heap.length + 1) st.heap.length 0 0 [] ∧ Kp st st' (fun _ => False) (fun _ => False) := by
  refine ⟨(st.push (.map [])).push (.row [.d (.sl 0 false []), .d (.sl 0 false []), .map st.heap.length, .d (.i .i64 1)]), ?_, ⟨hfl, htf, ⟨_, _, row_push_new (by simp), .inl ⟨rfl, rfl⟩, .inl ⟨rfl, rfl⟩⟩, ?_, fun h => absurd rfl h, List.nodup_nil, fun s hs => (List.not_mem_nil hs).elim⟩, (Kp.push _).trans (Kp.push _)⟩
  · rw [den_fn (hp.at 7 rfl) rfl rfl, start_raw _ rfl]
    simp [F139_strs_New, fillV, lay, ofDs]
  · rw [mapOf_old (by simp), mapOf_push_new]
    rfl
include hq
theorem den_putS {p m tn tp : Nat} {ns : List Nm} (h : Tbl st p m tn tp ns) {s : Nm} (hs : okNm s = true) (hn : s ∉ ns) (hb : endAt 1 ns + s.length + 1 ≤ 1099511627776) :
    ∃ st' tn' tp', den pr 147 [.ptr p 0, .d (.s s)] st = some (.d (.i .i64 (endAt 1 ns : Nat)), st') ∧ Tbl st' p m tn' tp' (ns ++ [s]) ∧ Kp st st' (TR p m) (TT tn tp ns) ∧ (tn' = tn ∧ tp' = tp ∧ ns ≠ [] ∨ st.tips.length ≤ tn' ∧ st.tips.length ≤ tp') := by
  obtain ⟨vN, vP, hrow, hN, hP⟩ := h.row
  have hsl : s.length ≤ 64 := by
    unfold okNm at hs
    simp only [Bool.and_eq_true, decide_eq_true_eq] at hs
    exact hs.1.2
  have hcl := fun st => den_clnStr hp hq (st := st) s (by omega)
  have hge := endAt_ge (a := 1) (ns := ns)
  obtain ⟨vN', tn', s1, a1, a2, a3, a4, a5⟩ := hN.app h.tf (x := .s s) (by' := 16) (by simp; omega) (by simp; omega)
  have hpl := row_lt hrow
  have hrow1 : s1.row p = some [vN, vP, .map m, .d (.i .i64 (endAt 1 ns : Nat))] := by unfold St.row; rw [a3]; exact hrow
  have hfl1 : s1.floor = 0 := a4.floor.trans h.fl
  have o1 := a2.one
  obtain ⟨s2, hs2⟩ : ∃ s2, s2 = s1.put p [vN', vP, .map m, .d (.i .i64 (endAt 1 ns : Nat))] := ⟨_, rfl⟩
  have hpl1 : p < s1.heap.length := by rw [a3]; exact hpl
  have hrow2 : s2.row p = some [vN', vP, .map m, .d (.i .i64 (endAt 1 ns : Nat))] := by rw [hs2]; exact row_put_eq hpl1
  have k2 : Kp s1 s2 (TR p m) (TT tn tp ns) := by rw [hs2]; exact .put (.inl rfl)
  have k1 : Kp st s1 (TR p m) (TT tn tp ns) := a4.mono (fun _ _ e => e.elim) fun u _ ⟨e1, e2⟩ => ⟨fun e => e1 (by simp [e]), .inl e2⟩
  have hfl2 : s2.floor = 0 := k2.floor.trans hfl1
  have htf2 : s2.tfloor = 0 := k2.tfloor.trans (a4.tfloor.trans h.tf)
  have hP2 : NL s2 vP tp ((plcs 1 ns).map fun (a : Nat) => .i .i64 (a : Int)) := by
    refine (hP.keep a4 fun hc he => ?_).keep (T := fun _ => False) (R := TR p m) (by rw [hs2]; exact .put (.inl rfl)) fun _ e => e
    have hne : ns ≠ [] := fun e => hc (by simp [e, plcs])
    exact h.tt hne he.2.symm
  have hpn : ((plcs 1 ns).map fun (a : Nat) => D.i .i64 (a : Int)).length = ns.length := by simp [plcs_len]
  obtain ⟨vP', tp', s3, b1, b2, b3, b4, b5⟩ := hP2.app htf2 (x := .i .i64 (endAt 1 ns : Nat)) (by' := 8) (by rw [hpn]; omega) (by rw [hpn]; omega)
  have hrow3 : s3.row p = some [vN', vP, .map m, .d (.i .i64 (endAt 1 ns : Nat))] := by unfold St.row; rw [b3]; exact hrow2
  have hfl3 : s3.floor = 0 := b4.floor.trans hfl2
  have o3 := b2.one
  obtain ⟨s4, hs4⟩ : ∃ s4, s4 = s3.put p [vN', vP', .map m, .d (.i .i64 (endAt 1 ns : Nat))] := ⟨_, rfl⟩
  have hpl3 : p < s3.heap.length := row_lt hrow3
  have hrow4 : s4.row p = some [vN', vP', .map m, .d (.i .i64 (endAt 1 ns : Nat))] := by rw [hs4]; exact row_put_eq hpl3
  have hpm : m ≠ p := (row_map_ne hrow h.map).symm
  have hmap4 : s4.mapOf m = some (ents 1 ns) := by
    rw [hs4, mapOf_put hpm]
    have : s3.mapOf m = s2.mapOf m := by unfold St.mapOf; rw [b3]
    rw [this, hs2, mapOf_put hpm]
    have : s1.mapOf m = st.mapOf m := by unfold St.mapOf; rw [a3]
    rw [this]
    exact h.map
  have hfl4 : s4.floor = 0 := by rw [hs4]; exact hfl3
  have hset := setE_ents s ns 1 hn
  obtain ⟨s5, hs5⟩ : ∃ s5, s5 = s4.putM m (ents 1 (ns ++ [s])) := ⟨_, rfl⟩
  have hms : mapSetV true s4 (.map m) (.d (.s s)) (.d (.i .i64 (endAt 1 ns : Nat))) = some s5 := by
    simp only [mapSetV, keyOk, if_true, hmap4, hset, setBlk_putM hfl4, hs5]
  have hrow5 : s5.row p = some [vN', vP', .map m, .d (.i .i64 (endAt 1 ns : Nat))] := by rw [hs5, row_putM (Ne.symm hpm)]; exact hrow4
  have hfl5 : s5.floor = 0 := by rw [hs5]; exact hfl4
  obtain ⟨s6, hs6⟩ : ∃ s6, s6 = s5.put p [vN', vP', .map m, .d (.i .i64 (endAt 1 (ns ++ [s]) : Nat))] := ⟨_, rfl⟩
  have w1 : IntKind.wrap .i64 ((s.length : Int) + 1) = s.length + 1 := wrap_i64 (by omega) (by omega)
  have w2 : IntKind.wrap .i64 ((endAt 1 ns : Nat) + ((s.length : Int) + 1)) = (endAt 1 (ns ++ [s]) : Nat) := by
    rw [endAt_snoc, wrap_i64 (by omega) (by omega)]
    omega
  have hst2 : s1.setBlk p (.row [vN', vP, .map m, .d (.i .i64 (endAt 1 ns : Nat))]) = some s2 := by rw [hs2]; exact setBlk_put hfl1
  have hst4 : s3.setBlk p (.row [vN', vP', .map m, .d (.i .i64 (endAt 1 ns : Nat))]) = some s4 := by rw [hs4]; exact setBlk_put hfl3
  have hst6 : s5.setBlk p (.row [vN', vP', .map m, .d (.i .i64 (endAt 1 (ns ++ [s]) : Nat))]) = some s6 := by rw [hs6]; exact setBlk_put hfl5
  have k3 : Kp s2 s3 (TR p m) (TT tn tp ns) := b4.mono (fun _ _ e => e.elim) fun u _ ⟨e1, e2⟩ => ⟨fun e => e1 (by simp [e, plcs]), .inr e2⟩
  have k4 : Kp s3 s4 (TR p m) (TT tn tp ns) := by rw [hs4]; exact .put (.inl rfl)
  have k5 : Kp s4 s5 (TR p m) (TT tn tp ns) := by rw [hs5]; exact .putM (.inr rfl)
  have k6 : Kp s5 s6 (TR p m) (TT tn tp ns) := by rw [hs6]; exact .put (.inl rfl)
  have kk : Kp st s6 (TR p m) (TT tn tp ns) := k1.trans (k2.trans (k3.trans (k4.trans (k5.trans k6))))
  have hps : s6.floor = 0 ∧ s6.tfloor = 0 := ⟨kk.floor.trans h.fl, kk.tfloor.trans h.tf⟩
  -- tokens
  have htl : st.tips.length ≤ s1.tips.length := a4.tlen
  have ht2 : s2.tips = s1.tips := by rw [hs2]; rfl
  have htip : s6.tips = s3.tips := by rw [hs6, hs5, hs4]; rfl
  have hne' : tn' ≠ tp' := by
    have l1 := a2.lt (by simp)
    rcases b5 with ⟨c0, rfl⟩ | rfl
    · have hne : ns ≠ [] := fun e => c0 (by simp [e, plcs])
      rcases a5 with ⟨_, rfl⟩ | rfl
      · exact h.tt hne
      · have := hP.lt c0
        omega
    · rw [ht2]
      omega
  have hN6 : NL s6 vN' tn' ((ns ++ [s]).map .s) := by
    rw [List.map_append]
    have := ((a2.keep (T := fun _ => False) (R := TR p m) (by rw [hs2]; exact .put (.inl rfl)) fun _ e => e : NL s2 _ _ _).keep b4 fun _ e => ?_).keep (st' := s6) (T := fun _ => False) (R := TR p m) ?_ fun _ e => e
    · exact this
    · rcases a5 with ⟨c0, rfl⟩ | rfl
      · have hne : ns ≠ [] := fun e => c0 (by simp [e])
        exact h.tt hne e.2
      · have := hP.lt e.1
        omega
    · have q4 : Kp s3 s4 (TR p m) (fun _ => False) := by rw [hs4]; exact .put (.inl rfl)
      have q5 : Kp s4 s5 (TR p m) (fun _ => False) := by rw [hs5]; exact .putM (.inr rfl)
      have q6 : Kp s5 s6 (TR p m) (fun _ => False) := by rw [hs6]; exact .put (.inl rfl)
      exact q4.trans (q5.trans q6)
  have hP6 : NL s6 vP' tp' ((plcs 1 (ns ++ [s])).map fun (a : Nat) => .i .i64 (a : Int)) := by
    rw [plcs_app, List.map_append]
    refine b2.keep (st' := s6) (T := fun _ => False) (R := TR p m) ?_ fun _ e => e
    have q4 : Kp s3 s4 (TR p m) (fun _ => False) := by rw [hs4]; exact .put (.inl rfl)
    have q5 : Kp s4 s5 (TR p m) (fun _ => False) := by rw [hs5]; exact .putM (.inr rfl)
    have q6 : Kp s5 s6 (TR p m) (fun _ => False) := by rw [hs6]; exact .put (.inl rfl)
    exact q4.trans (q5.trans q6)
  refine ⟨s6, tn', tp', ?_, ⟨hps.1, hps.2, ⟨vN', vP', ?_, hN6, hP6⟩, ?_, fun _ => hne', ?_, ?_⟩, kk, ?_⟩
  · rw [den_fn (hp.at 8 rfl) rfl rfl, start_raw _ rfl]
    simp [F147_strs_Table_put, hrow, hcl, fillV, lay, ofDs, reps, a1, hrow1, o1, hst2, hrow2, b1, hrow3, o3, hst4, hrow4, hms, hrow5, w1, w2, hst6]
  · rw [hs6]
    exact row_put_eq (row_lt hrow5)
  · rw [hs6, mapOf_put hpm, hs5]
    exact mapOf_putM (map_lt hmap4)
  · rw [List.nodup_append]
    refine ⟨h.nd, by simp, fun x hx y hy e => ?_⟩
    simp only [List.mem_singleton] at hy
    exact hn (by rw [← hy, ← e]; exact hx)
  · intro x hx
    rcases List.mem_append.1 hx with hx | hx
    · exact h.ok x hx
    · simp only [List.mem_singleton] at hx
      rw [hx]; exact hs
  · rcases a5 with ⟨c0, rfl⟩ | rfl
    · have hne : ns ≠ [] := fun e => c0 (by simp [e])
      rcases b5 with ⟨_, rfl⟩ | rfl
      · exact .inl ⟨rfl, rfl, hne⟩
      · rcases hP2 with ⟨e, _⟩ | hP2
        · exact absurd (by simpa using e) (plcs_ne (a := 1) hne)
        · exfalso
          obtain ⟨e0, rfl, e1, _⟩ := hP2
          -- the token stays
          have := (List.getElem?_eq_some_iff.1 e1).1
          simp only [appV, vw] at b1
          split at b1
          · simp only [Option.some.injEq, Prod.mk.injEq] at b1
            have hv := b1.1
            rcases b2 with ⟨f0, _⟩ | ⟨_, f1, _⟩
            · simp at f0
            · rw [f1] at hv
              simp only [V.own.injEq] at hv
              omega
          · cases b1
    · right
      refine ⟨Nat.le_refl _, ?_⟩
      rcases b5 with ⟨c0, rfl⟩ | rfl
      · have hne : ns ≠ [] := fun e => c0 (by simp [e, plcs])
        rcases hN with ⟨e, _⟩ | hN
        · exact absurd (by simpa using e) hne
        · exfalso
          obtain ⟨e0, rfl, e1, _⟩ := hN
          have := (List.getElem?_eq_some_iff.1 e1).1
          simp only [appV, vw] at a1
          split at a1
          · simp only [Option.some.injEq, Prod.mk.injEq] at a1
            have hv := a1.1
            rcases a2 with ⟨f0, _⟩ | ⟨_, f1, _⟩
            · simp at f0
            · rw [f1] at hv
              simp only [V.own.injEq] at hv
              omega
          · cases a1
      · rw [ht2]
        exact htl
end
end Go.Sh

/- String tables: Add, At, Names, Bytes. -/
set_option linter.unusedVariables false
set_option linter.unusedSimpArgs false
namespace Go.Sh
theorem okNm_len {s : Nm} (h : okNm s = true) : 0 < s.length ∧ s.length ≤ 64 := by
  unfold okNm at h
  simp only [Bool.and_eq_true, decide_eq_true_eq] at h
  exact h.1
section
variable {pr : Prog} (hp : Sub strsFns pr) (hq : SubP strsPrims pr) {st : St}
include hp
include hq
theorem den_Add_old {p m tn tp : Nat} {ns : List Nm} (h : Tbl st p m tn tp ns) {s : Nm} (hs : okNm s = true) {q : Nat} (hf : findNm s 1 ns = some q) : den pr 140 [.ptr p 0, .d (.s s)] st = some (.tup [.d (.i .i64 q), .d (.i .i64 0)], st) := by
  have hn := fun st => den_isName hp hq (st := st) s
  rw [hs] at hn
  obtain ⟨vN, vP, hrow, hN, hP⟩ := h.row
  have hfe := findE_ents s ns 1
  rw [hf] at hfe
  rw [den_fn (hp.at 9 rfl) rfl rfl, start_raw _ rfl]
  simp [F140_strs_Table_Add, eqV, hn, hrow, lookV, keyOk, h.map, hfe, lookOut, zeroV]
theorem den_Add_new {p m tn tp : Nat} {ns : List Nm} (h : Tbl st p m tn tp ns) {s : Nm} (hs : okNm s = true) (hn : s ∉ ns) (hb : endAt 1 ns + s.length + 1 ≤ 1099511627776) :
    ∃ st' tn' tp', den pr 140 [.ptr p 0, .d (.s s)] st = some (.tup [.d (.i .i64 (endAt 1 ns : Nat)), .d (.i .i64 0)], st') ∧ Tbl st' p m tn' tp' (ns ++ [s]) ∧ Kp st st' (TR p m) (TT tn tp ns) ∧ (tn' = tn ∧ tp' = tp ∧ ns ≠ [] ∨ st.tips.length ≤ tn' ∧ st.tips.length ≤ tp') := by
  obtain ⟨st', tn', tp', h1, h2, h3, h4⟩ := den_putS hp hq h hs hn hb
  refine ⟨st', tn', tp', ?_, h2, h3, h4⟩
  have hk := fun st => den_isName hp hq (st := st) s
  rw [hs] at hk
  obtain ⟨vN, vP, hrow, hN, hP⟩ := h.row
  have hfe := findE_ents s ns 1
  rw [findNm_none.2 hn] at hfe
  rw [den_fn (hp.at 9 rfl) rfl rfl, start_raw _ rfl]
  simp [F140_strs_Table_Add, eqV, hk, hrow, lookV, keyOk, h.map, hfe, lookOut, zeroV, h1]
omit hq in
theorem den_Bytes {p m tn tp : Nat} {ns : List Nm} (h : Tbl st p m tn tp ns) (hb : endAt 1 ns ≤ 1099511627776) : den pr 142 [.ptr p 0] st = some (.tup [bsl true (tabB ns), .d (.i .i64 0)], st) := by
  obtain ⟨vN, vP, hrow, hN, hP⟩ := h.row
  have hge := endAt_ge (a := 1) (ns := ns)
  have hlen := hN.len
  rw [List.length_map] at hlen
  have hr1 : room 1 (.d (.i .i64 (1 : Int))) = some 1 := by simp [room]
  have hr : room 1 (.d (.i .i64 (endAt 1 ns : Nat))) = some (endAt 1 ns) := by
    simp [room]
    omega
  have hle : 1 ≤ endAt 1 ns := by omega
  rw [den_fn (hp.at 11 rfl) rfl rfl]
  obtain ⟨s1, hs1⟩ : ∃ s1, s1 = ({ st with floor := st.heap.length, tfloor := st.tips.length } : St) := ⟨_, rfl⟩
  have hst : start F142_strs_Table_Bytes st = s1 := by rw [hs1]; rfl
  rw [hst]
  have hrow1 : s1.row p = some [vN, vP, .map m, .d (.i .i64 (endAt 1 ns : Nat))] := by rw [hs1]; exact hrow
  have ht1 : s1.tips = st.tips := by rw [hs1]
  have hf1 : s1.tfloor = st.tips.length := by rw [hs1]
  simp [F142_strs_Table_Bytes, eqV, hrow1, hr1, hr, hle, hlen]
  generalize hL : cden pr (.loop _ _ _) _ _ = o
  obtain ⟨r, rfl, hQ⟩ : ∃ r, o = some r ∧ ∃ e s, r = (.exit 0, e, s) ∧ e.get 4 = some (.own 1 (endAt 1 ns) true (byteCells (tabB ns)) st.tips.length) := by
    rw [← hL]
    refine loop_n ns.length (fun i => [(4, .own 1 (endAt 1 (ns.take i)) true (byteCells (tabB (ns.take i))) st.tips.length), (17, vN), (18, .d (.i .i64 ns.length)), (19, .d (.i .i64 i))]) (fun i => { s1 with tips := s1.tips ++ [endAt 1 (ns.take i)] }) ?_ (by simp [ht1, tabB, byteCells, endAt, reps]) (by simp [endAt])
    intro i hi
    rcases Nat.lt_or_ge i ns.length with hlt | hge2
    · obtain ⟨s, hs⟩ : ∃ s, ns[i]? = some s := ⟨_, List.getElem?_eq_getElem hlt⟩
      obtain ⟨g1, g2⟩ := hN.get (i := i) (x := .s s) (by simp [hs]) (k := .i64)
      have hok := okNm_len (h.ok s (List.mem_of_getElem? hs))
      have h1 : IntKind.wrap .i64 ((i : Int) + 1) = i + 1 := wrap_i64 (by omega) (by omega)
      have htk : ns.take (i + 1) = ns.take i ++ [s] := by rw [List.take_add_one, hs]; rfl
      have hsm : endAt 1 (ns.take (i + 1)) ≤ endAt 1 ns := by
        conv => rhs; rw [← List.take_append_drop (i + 1) ns, endAt_app]
        exact Nat.le_trans (Nat.le_add_right _ _) endAt_ge
      have he : endAt 1 (ns.take (i + 1)) = endAt 1 (ns.take i) + s.length + 1 := by rw [htk, endAt_snoc]
      have hcl : (tabB (ns.take i)).length = endAt 1 (ns.take i) := tabB_len
      obtain ⟨E, hE⟩ : ∃ E, E = endAt 1 (ns.take i) := ⟨_, rfl⟩
      rw [← hE] at he hcl
      have hb1 : E + s.length ≤ 140737488355328 := by omega
      have hb2 : E + (s.length + 1) ≤ 140737488355328 := by omega
      have ht2 : byteCells (tabB (ns.take (i + 1))) = byteCells (tabB (ns.take i)) ++ (byteCells s ++ [.i .u8 0]) := by rw [htk, tabB_snoc, byteCells_app, byteCells_app]; rfl
      simp [F142_strs_Table_Bytes_b0, hlt, g1, g2, ← hE, appV, vw, byteCells_len, hcl, ht1, hf1, hb1, hb2, fillV, lay, reps, ofDs, he, h1, ht2, Nat.add_assoc]
    · have : i = ns.length := by omega
      subst this
      simp [F142_strs_Table_Bytes_b0]
  obtain ⟨e, s, rfl, h4⟩ := hQ
  have hl : endAt 1 ns = (tabB ns).length := tabB_len.symm
  simp [h4, bsl, hl]
end
end Go.Sh

/- String tables: Read, of bytes that are data or lie in a row. -/
set_option linter.unusedVariables false
set_option linter.unusedSimpArgs false
namespace Go.Sh
/-- Bytes that can be read: as data, or in a row. -/
def BV (st : St) (v : V) (L : List UInt8) : Prop := (∃ nz, v = bsl nz L) ∨ ∃ id off cap c, v = .rsl 1 id off L.length cap ∧ L.length ≤ cap ∧ st.row id = some c ∧ off + L.length ≤ c.length ∧ (c.drop off).take L.length = ofDs (byteCells L)
theorem bsl_iaddr {nz : Bool} {L : List UInt8} {i : Nat} {b : UInt8} (h : L[i]? = some b) {k : IntKind} : iaddrV 1 (bsl nz L) (.d (.i k (i : Int))) = some (.ep ((byteCells L).drop i)) ∧ ∀ s, loadV 1 false s (.ep ((byteCells L).drop i)) = some (.d (.i .u8 b.toNat)) := by
  have hlt := (List.getElem?_eq_some_iff.1 h).1
  have hd : (byteCells L).drop i = .i .u8 b.toNat :: (byteCells L).drop (i + 1) := by
    rw [List.drop_eq_getElem_cons (by rw [byteCells_len]; exact hlt)]
    congr 1
    simp only [byteCells, List.getElem_map]
    rw [(List.getElem?_eq_some_iff.1 h).2]
  refine ⟨?_, fun s => ?_⟩
  · simp [iaddrV, bsl, hlt]
  · rw [hd]
    simp [loadV, mkV, ofDs]
section
variable {st st' : St} {v : V} {L : List UInt8}
theorem BV.len (h : BV st v L) : lenV v = some L.length := by
  rcases h with ⟨nz, rfl⟩ | ⟨id, off, cap, c, rfl, _⟩ <;> rfl
theorem BV.vw (h : BV st v L) : vw 1 st v = some (L.length, byteCells L) := by
  rcases h with ⟨nz, rfl⟩ | ⟨id, off, cap, c, rfl, h1, h2, h3, h4⟩
  · rfl
  · simp only [Go.Sh.vw, if_true, Nat.mul_one, cellsAt, h2, h3, h4, toDs_of, Option.map_some]
theorem BV.b2s (h : BV st v L) : b2sV st v = some (.d (.s L)) := by
  have hv := h.vw
  have hl : (byteCells L).length = L.length := by simp [byteCells]
  have key : (match Go.Sh.vw 1 st v with
    | some (n, ds) => if ds.length = n then (bytesOf ds).map fun l => V.d (.s l) else none
    | none => none) = some (.d (.s L)) := by rw [hv]; simp only [hl, if_true, bytesOf_cells, Option.map_some]
  rcases h with ⟨nz, rfl⟩ | ⟨id, off, cap, c, rfl, _⟩ <;> exact key
theorem BV.idx (h : BV st v L) : pIdxB [v, .d (.i .u8 0)] st = some (.d (.i .i64 (Lib.indexByte L 0))) := by
  have hv := h.vw
  have hl : (byteCells L).length = L.length := by simp [byteCells]
  have hn : notStr v = true := by rcases h with ⟨nz, rfl⟩ | ⟨id, off, cap, c, rfl, _⟩ <;> rfl
  simp only [pIdxB, hn, if_true, hv, hl, bytesOf_cells, Option.map_some]
  rfl
end
section
variable {pr : Prog} (hp : Sub strsFns pr) (hq : SubP strsPrims pr) {st : St}
include hp hq
end
@[simp] theorem own_cs {s n : Nat} {nz : Bool} {c : List D} {t : Nat} : V.cs (.own s n nz c t) = [.own s n nz c t] := rfl
@[simp] theorem own_ok1 {s n : Nat} {nz : Bool} {c : List D} {t : Nat} : V.ok1 (.own s n nz c t) = true := rfl
end Go.Sh
