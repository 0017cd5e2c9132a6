/- String tables: the table in the heap; New, put, Add. -/
import Derived.Test.YtpgipjjhapapjaaShLstrsB
set_option linter.unusedVariables false
set_option linter.unusedSimpArgs false
namespace Go.Sh
@[simp] theorem row_mk {st : St} {T : List Nat} {f g i : Nat} : (⟨st.heap, T, f, g⟩ : St).row i = st.row i := rfl
@[simp] theorem mapOf_mk {st : St} {T : List Nat} {f g i : Nat} : (⟨st.heap, T, f, g⟩ : St).mapOf i = st.mapOf i := rfl
@[simp] theorem map_cs {id : Nat} : V.cs (.map id) = [.map id] := rfl
@[simp] theorem map_ok1 {id : Nat} : V.ok1 (.map id) = true := rfl
/-- What has come of a state: blocks outside R and tokens outside T stay. -/
structure Kp (st st' : St) (R T : Nat → Prop) : Prop where
  floor : st'.floor = st.floor
  tfloor : st'.tfloor = st.tfloor
  hlen : st.heap.length ≤ st'.heap.length
  tlen : st.tips.length ≤ st'.tips.length
  heap : ∀ i, i < st.heap.length → ¬ R i → st'.heap[i]? = st.heap[i]?
  tips : ∀ t, t < st.tips.length → ¬ T t → st'.tips[t]? = st.tips[t]?
theorem Kp.refl (st : St) (R T : Nat → Prop) : Kp st st R T := ⟨rfl, rfl, Nat.le_refl _, Nat.le_refl _, fun _ _ _ => rfl, fun _ _ _ => rfl⟩
theorem Kp.trans {a b c : St} {R T : Nat → Prop} (h : Kp a b R T) (k : Kp b c R T) : Kp a c R T :=
  ⟨k.floor.trans h.floor, k.tfloor.trans h.tfloor, Nat.le_trans h.hlen k.hlen, Nat.le_trans h.tlen k.tlen,
    fun i hi hn => (k.heap i (Nat.lt_of_lt_of_le hi h.hlen) hn).trans (h.heap i hi hn), fun t ht hn => (k.tips t (Nat.lt_of_lt_of_le ht h.tlen) hn).trans (h.tips t ht hn)⟩
theorem Kp.mono {a b : St} {R T R' T' : Nat → Prop} (h : Kp a b R T) (hR : ∀ i, i < a.heap.length → R i → R' i) (hT : ∀ t, t < a.tips.length → T t → T' t) : Kp a b R' T' :=
  ⟨h.floor, h.tfloor, h.hlen, h.tlen, fun i hi hn => h.heap i hi fun hr => hn (hR i hi hr), fun t ht hn => h.tips t ht fun hr => hn (hT t ht hr)⟩
theorem row_of_heap {a b : St} {i : Nat} (h : b.heap[i]? = a.heap[i]?) : b.row i = a.row i := by unfold St.row; rw [h]
theorem map_of_heap {a b : St} {i : Nat} (h : b.heap[i]? = a.heap[i]?) : b.mapOf i = a.mapOf i := by unfold St.mapOf; rw [h]
theorem map_lt {st : St} {i : Nat} {es : List (D × V)} (h : st.mapOf i = some es) : i < st.heap.length := by
  unfold St.mapOf at h
  split at h
  · rename_i hc
    exact (List.getElem?_eq_some_iff.1 hc).1
  · cases h
theorem row_map_ne {st : St} {i j : Nat} {cs : List V} {es : List (D × V)} (h : st.row i = some cs) (h' : st.mapOf j = some es) : i ≠ j := by
  rintro rfl
  unfold St.row at h
  unfold St.mapOf at h'
  split at h
  · rename_i hc
    rw [hc] at h'
    simp at h'
  · cases h
/-- A map written over. -/
def St.putM (st : St) (id : Nat) (es : List (D × V)) : St := { st with heap := st.heap.set id (some (.map es)) }
section
variable {st : St} {id j : Nat} {es : List (D × V)} {cs : List V}
theorem setBlk_putM (h : st.floor = 0) : st.setBlk id (.map es) = some (st.putM id es) := by
  unfold St.setBlk
  rw [if_pos (by omega)]
  rfl
theorem Kp.put {R T : Nat → Prop} (h : R id) : Kp st (st.put id cs) R T := by
  refine ⟨rfl, rfl, by simp, Nat.le_refl _, fun i hi hn => ?_, fun _ _ _ => rfl⟩
  unfold St.put
  simp only [List.getElem?_set]
  rw [if_neg (fun e => hn (by rw [← e]; exact h))]
theorem Kp.putM {R T : Nat → Prop} (h : R id) : Kp st (st.putM id es) R T := by
  refine ⟨rfl, rfl, by simp [St.putM], Nat.le_refl _, fun i hi hn => ?_, fun _ _ _ => rfl⟩
  unfold St.putM
  simp only [List.getElem?_set]
  rw [if_neg (fun e => hn (by rw [← e]; exact h))]
theorem Kp.push {R T : Nat → Prop} (b : Blk) : Kp st (st.push b) R T := by
  refine ⟨rfl, rfl, by simp, Nat.le_refl _, fun i hi hn => ?_, fun _ _ _ => rfl⟩
  simp only [St.push]
  rw [List.getElem?_append_left hi]
theorem mapOf_putM (h : id < st.heap.length) : (st.putM id es).mapOf id = some es := by simp [St.mapOf, St.putM, h]
theorem row_putM (h : j ≠ id) : (st.putM id es).row j = st.row j := by
  refine row_of_heap ?_
  unfold St.putM
  simp only [List.getElem?_set]
  rw [if_neg (fun e => h e.symm)]
theorem mapOf_put (h : j ≠ id) : (st.put id cs).mapOf j = st.mapOf j := by
  refine map_of_heap ?_
  unfold St.put
  simp only [List.getElem?_set]
  rw [if_neg (fun e => h e.symm)]
theorem mapOf_old {b : Blk} (h : j < st.heap.length) : (st.push b).mapOf j = st.mapOf j := by
  refine map_of_heap ?_
  simp only [St.push]
  rw [List.getElem?_append_left h]
theorem mapOf_push_new : (st.push (.map es)).mapOf st.heap.length = some es := by simp [St.mapOf, St.push]
end
/-- A list that grows, of cells of one; its token. -/
def NL (st : St) (v : V) (t : Nat) (cs : List D) : Prop := (cs = [] ∧ v = .d (.sl 0 false [])) ∨ (cs ≠ [] ∧ v = .own 1 cs.length true cs t ∧ st.tips[t]? = some cs.length ∧ st.tfloor = 0)
section
variable {st st' : St} {v : V} {t : Nat} {cs : List D} {R T : Nat → Prop}
theorem NL.one (h : NL st v t cs) : v.ok1 = true ∧ v.cs = [v] := by
  rcases h with ⟨_, rfl⟩ | ⟨_, rfl, _⟩ <;> exact ⟨rfl, rfl⟩
theorem NL.lt (h : NL st v t cs) (hc : cs ≠ []) : t < st.tips.length := by
  rcases h with ⟨h, _⟩ | ⟨_, _, h, _⟩
  · exact absurd h hc
  · exact (List.getElem?_eq_some_iff.1 h).1
theorem NL.keep (h : NL st v t cs) (k : Kp st st' R T) (ht : cs ≠ [] → ¬ T t) : NL st' v t cs := by
  rcases h with h | ⟨h0, h1, h2, h3⟩
  · exact .inl h
  · exact .inr ⟨h0, h1, (k.tips t (List.getElem?_eq_some_iff.1 h2).1 (ht h0)).trans h2, k.tfloor.trans h3⟩
theorem NL.c (h : NL st v t cs) : SlC 1 v (cs.map fun d => [d]) := by
  have hf : (cs.map fun d => [d]).flatten = cs := by
    clear h
    induction cs with
    | nil => rfl
    | cons a r ih => simpa using ih
  have h1 : ∀ x ∈ cs.map fun d => [d], x.length = 1 := by
    intro x hx
    simp only [List.mem_map] at hx
    obtain ⟨_, _, rfl⟩ := hx
    rfl
  rcases h with ⟨rfl, rfl⟩ | ⟨_, rfl, _⟩
  · exact .of_sl h1 rfl rfl
  · exact .of_own h1 (by simp) hf.symm
theorem NL.len (h : NL st v t cs) : lenV v = some cs.length := by
  rcases h with ⟨rfl, rfl⟩ | ⟨_, rfl, _⟩ <;> rfl
theorem NL.get (h : NL st v t cs) {i : Nat} {x : D} (hx : cs[i]? = some x) {k : IntKind} : iaddrV 1 v (.d (.i k (i : Int))) = some (.ep (cs.drop i)) ∧ ∀ s, loadV 1 false s (.ep (cs.drop i)) = some (.d x) := by
  have hlt := (List.getElem?_eq_some_iff.1 hx).1
  have hd : cs.drop i = x :: cs.drop (i + 1) := by rw [List.drop_eq_getElem_cons hlt, (List.getElem?_eq_some_iff.1 hx).2]
  refine ⟨?_, fun s => ?_⟩
  · rcases h with ⟨rfl, rfl⟩ | ⟨_, rfl, _⟩
    · simp at hlt
    · simp [iaddrV, hlt]
  · rw [hd]
    simp [loadV, mkV, ofDs]
/-- One more. -/
theorem NL.app (h : NL st v t cs) (htf : st.tfloor = 0) {x : D} {by' : Nat} (hb : (cs.length + 1) * by' ≤ 140737488355328) (hn : cs.length + 1 ≤ 140737488355328) :
    ∃ v' t' s1, appV 1 by' st v (.d (.sl 1 true [x])) = some (v', s1) ∧ NL s1 v' t' (cs ++ [x]) ∧ s1.heap = st.heap ∧ Kp st s1 (fun _ => False) (fun u => cs ≠ [] ∧ u = t) ∧ ((cs ≠ [] ∧ t' = t) ∨ t' = st.tips.length) := by
  rcases h with ⟨rfl, rfl⟩ | ⟨h0, rfl, h2, h3⟩
  · have hb' : by' ≤ 140737488355328 := by simpa using hb
    refine ⟨.own 1 1 true [x] st.tips.length, st.tips.length, { st with tips := st.tips ++ [1] }, ?_, .inr ⟨by simp, rfl, by simp, htf⟩, rfl, ⟨rfl, rfl, Nat.le_refl _, by simp, fun _ _ _ => rfl, fun u hu _ => ?_⟩, .inr rfl⟩
    · simp [appV, vw, hb']
    · simp only
      rw [List.getElem?_append_left hu]
  · have hlt := (List.getElem?_eq_some_iff.1 h2).1
    refine ⟨.own 1 (cs.length + 1) true (cs ++ [x]) t, t, { st with tips := st.tips.set t (cs.length + 1) }, ?_, .inr ⟨by simp, by simp, by simp [hlt], htf⟩, rfl, ⟨rfl, rfl, Nat.le_refl _, by simp, fun _ _ _ => rfl, fun u hu hn => ?_⟩, .inl ⟨h0, rfl⟩⟩
    · have h4 : st.tfloor ≤ t := by omega
      simp [appV, vw, h2, h4, hb, hn]
    · simp only [List.getElem?_set]
      rw [if_neg (fun e => hn ⟨h0, e.symm⟩)]
end
def ents (a : Nat) : List Nm → List (D × V)
  | [] => []
  | s :: r => (.s s, .d (.i .i64 (a : Nat))) :: ents (a + s.length + 1) r
theorem findE_ents (s : Nm) : ∀ (ns : List Nm) (a : Nat), findE (.s s) (ents a ns) = some ((findNm s a ns).map fun q => V.d (.i .i64 (q : Nat)))
  | [], a => rfl
  | x :: r, a => by
    simp only [ents, findE, eqD, findNm]
    by_cases h : x = s
    · subst h
      simp
    · have h' : (s == x) = false := by simpa using fun e => h e.symm
      simp only [h', if_neg h]
      exact findE_ents s r _
theorem setE_ents (s : Nm) : ∀ (ns : List Nm) (a : Nat), s ∉ ns → setE (.s s) (.d (.i .i64 (endAt a ns : Nat))) (ents a ns) = some (ents a (ns ++ [s]))
  | [], a, _ => rfl
  | x :: r, a, h => by
    simp only [List.mem_cons, not_or] at h
    have h' : (s == x) = false := by simpa using h.1
    simp only [ents, setE, eqD, h', endAt, List.cons_append]
    rw [setE_ents s r _ h.2]
    rfl
/-- A table in the heap: its block p, its map m, the tokens of its lists. -/
structure Tbl (st : St) (p m tn tp : Nat) (ns : List Nm) : Prop where
  fl : st.floor = 0
  tf : st.tfloor = 0
  row : ∃ vN vP, st.row p = some [vN, vP, .map m, .d (.i .i64 (endAt 1 ns : Nat))] ∧ NL st vN tn (ns.map .s) ∧ NL st vP tp ((plcs 1 ns).map fun (a : Nat) => .i .i64 (a : Int))
  map : st.mapOf m = some (ents 1 ns)
  tt : ns ≠ [] → tn ≠ tp
  nd : ns.Nodup
  ok : ∀ s ∈ ns, okNm s = true
theorem Tbl.plt {st : St} {p m tn tp : Nat} {ns : List Nm} (h : Tbl st p m tn tp ns) : p < st.heap.length := by
  obtain ⟨_, _, h1, _⟩ := h.row
  exact row_lt h1
theorem plcs_ne {a : Nat} {ns : List Nm} (h : ns ≠ []) : plcs a ns ≠ [] := by
  cases ns with
  | nil => exact absurd rfl h
  | cons x r => simp [plcs]
theorem Tbl.keep {st st' : St} {p m tn tp : Nat} {ns : List Nm} {R T : Nat → Prop} (h : Tbl st p m tn tp ns) (k : Kp st st' R T) (hp : ¬ R p) (hm : ¬ R m) (ht : ns ≠ [] → ¬ T tn ∧ ¬ T tp) : Tbl st' p m tn tp ns := by
  obtain ⟨vN, vP, h1, h2, h3⟩ := h.row
  refine ⟨k.floor.trans h.fl, k.tfloor.trans h.tf, ⟨vN, vP, (row_of_heap (k.heap p (row_lt h1) hp)).trans h1, h2.keep k fun hc => (ht fun e => hc (by simp [e])).1, h3.keep k fun hc => (ht fun e => hc (by simp [e, plcs])).2⟩, (map_of_heap (k.heap m (map_lt h.map) hm)).trans h.map, h.tt, h.nd, h.ok⟩
/-- Which blocks and tokens are a table's. -/
def TR (p m : Nat) : Nat → Prop := fun i => i = p ∨ i = m
def TT (tn tp : Nat) (ns : List Nm) : Nat → Prop := fun t => ns ≠ [] ∧ (t = tn ∨ t = tp)
section
variable {pr : Prog} (hp : Sub strsFns pr) (hq : SubP strsPrims pr) {st : St}
include hp
theorem den_New (hfl : st.floor = 0) (htf : st.tfloor = 0) : ∃ st', den pr 139 [] st = some (.ptr (st.heap.length + 1) 0, st') ∧ Tbl st' (st.heap.length + 1) st.heap.length 0 0 [] ∧ Kp st st' (fun _ => False) (fun _ => False) := by
  refine ⟨(st.push (.map [])).push (.row [.d (.sl 0 false []), .d (.sl 0 false []), .map st.heap.length, .d (.i .i64 1)]), ?_, ⟨hfl, htf, ⟨_, _, row_push_new (by simp), .inl ⟨rfl, rfl⟩, .inl ⟨rfl, rfl⟩⟩, ?_, fun h => absurd rfl h, List.nodup_nil, fun s hs => (List.not_mem_nil hs).elim⟩, (Kp.push _).trans (Kp.push _)⟩
  · rw [den_fn (hp.at 7 rfl) rfl rfl, start_raw _ rfl]
    simp [F139_strs_New, fillV, lay, ofDs]
  · rw [mapOf_old (by simp), mapOf_push_new]
    rfl
include hq
theorem den_putS {p m tn tp : Nat} {ns : List Nm} (h : Tbl st p m tn tp ns) {s : Nm} (hs : okNm s = true) (hn : s ∉ ns) (hb : endAt 1 ns + s.length + 1 ≤ 1099511627776) :
    ∃ st' tn' tp', den pr 147 [.ptr p 0, .d (.s s)] st = some (.d (.i .i64 (endAt 1 ns : Nat)), st') ∧ Tbl st' p m tn' tp' (ns ++ [s]) ∧ Kp st st' (TR p m) (TT tn tp ns) ∧ (tn' = tn ∧ tp' = tp ∧ ns ≠ [] ∨ st.tips.length ≤ tn' ∧ st.tips.length ≤ tp') := by
  obtain ⟨vN, vP, hrow, hN, hP⟩ := h.row
  have hsl : s.length ≤ 64 := by
    unfold okNm at hs
    simp only [Bool.and_eq_true, decide_eq_true_eq] at hs
    exact hs.1.2
  have hcl := fun st => den_clnStr hp hq (st := st) s (by omega)
  have hge := endAt_ge (a := 1) (ns := ns)
  obtain ⟨vN', tn', s1, a1, a2, a3, a4, a5⟩ := hN.app h.tf (x := .s s) (by' := 16) (by simp; omega) (by simp; omega)
  have hpl := row_lt hrow
  have hrow1 : s1.row p = some [vN, vP, .map m, .d (.i .i64 (endAt 1 ns : Nat))] := by unfold St.row; rw [a3]; exact hrow
  have hfl1 : s1.floor = 0 := a4.floor.trans h.fl
  have o1 := a2.one
  obtain ⟨s2, hs2⟩ : ∃ s2, s2 = s1.put p [vN', vP, .map m, .d (.i .i64 (endAt 1 ns : Nat))] := ⟨_, rfl⟩
  have hpl1 : p < s1.heap.length := by rw [a3]; exact hpl
  have hrow2 : s2.row p = some [vN', vP, .map m, .d (.i .i64 (endAt 1 ns : Nat))] := by rw [hs2]; exact row_put_eq hpl1
  have k2 : Kp s1 s2 (TR p m) (TT tn tp ns) := by rw [hs2]; exact .put (.inl rfl)
  have k1 : Kp st s1 (TR p m) (TT tn tp ns) := a4.mono (fun _ _ e => e.elim) fun u _ ⟨e1, e2⟩ => ⟨fun e => e1 (by simp [e]), .inl e2⟩
  have hfl2 : s2.floor = 0 := k2.floor.trans hfl1
  have htf2 : s2.tfloor = 0 := k2.tfloor.trans (a4.tfloor.trans h.tf)
  have hP2 : NL s2 vP tp ((plcs 1 ns).map fun (a : Nat) => .i .i64 (a : Int)) := by
    refine (hP.keep a4 fun hc he => ?_).keep (T := fun _ => False) (R := TR p m) (by rw [hs2]; exact .put (.inl rfl)) fun _ e => e
    have hne : ns ≠ [] := fun e => hc (by simp [e, plcs])
    exact h.tt hne he.2.symm
  have hpn : ((plcs 1 ns).map fun (a : Nat) => D.i .i64 (a : Int)).length = ns.length := by simp [plcs_len]
  obtain ⟨vP', tp', s3, b1, b2, b3, b4, b5⟩ := hP2.app htf2 (x := .i .i64 (endAt 1 ns : Nat)) (by' := 8) (by rw [hpn]; omega) (by rw [hpn]; omega)
  have hrow3 : s3.row p = some [vN', vP, .map m, .d (.i .i64 (endAt 1 ns : Nat))] := by unfold St.row; rw [b3]; exact hrow2
  have hfl3 : s3.floor = 0 := b4.floor.trans hfl2
  have o3 := b2.one
  obtain ⟨s4, hs4⟩ : ∃ s4, s4 = s3.put p [vN', vP', .map m, .d (.i .i64 (endAt 1 ns : Nat))] := ⟨_, rfl⟩
  have hpl3 : p < s3.heap.length := row_lt hrow3
  have hrow4 : s4.row p = some [vN', vP', .map m, .d (.i .i64 (endAt 1 ns : Nat))] := by rw [hs4]; exact row_put_eq hpl3
  have hpm : m ≠ p := (row_map_ne hrow h.map).symm
  have hmap4 : s4.mapOf m = some (ents 1 ns) := by
    rw [hs4, mapOf_put hpm]
    have : s3.mapOf m = s2.mapOf m := by unfold St.mapOf; rw [b3]
    rw [this, hs2, mapOf_put hpm]
    have : s1.mapOf m = st.mapOf m := by unfold St.mapOf; rw [a3]
    rw [this]
    exact h.map
  have hfl4 : s4.floor = 0 := by rw [hs4]; exact hfl3
  have hset := setE_ents s ns 1 hn
  obtain ⟨s5, hs5⟩ : ∃ s5, s5 = s4.putM m (ents 1 (ns ++ [s])) := ⟨_, rfl⟩
  have hms : mapSetV true s4 (.map m) (.d (.s s)) (.d (.i .i64 (endAt 1 ns : Nat))) = some s5 := by
    simp only [mapSetV, keyOk, if_true, hmap4, hset, setBlk_putM hfl4, hs5]
  have hrow5 : s5.row p = some [vN', vP', .map m, .d (.i .i64 (endAt 1 ns : Nat))] := by rw [hs5, row_putM (Ne.symm hpm)]; exact hrow4
  have hfl5 : s5.floor = 0 := by rw [hs5]; exact hfl4
  obtain ⟨s6, hs6⟩ : ∃ s6, s6 = s5.put p [vN', vP', .map m, .d (.i .i64 (endAt 1 (ns ++ [s]) : Nat))] := ⟨_, rfl⟩
  have w1 : IntKind.wrap .i64 ((s.length : Int) + 1) = s.length + 1 := wrap_i64 (by omega) (by omega)
  have w2 : IntKind.wrap .i64 ((endAt 1 ns : Nat) + ((s.length : Int) + 1)) = (endAt 1 (ns ++ [s]) : Nat) := by
    rw [endAt_snoc, wrap_i64 (by omega) (by omega)]
    omega
  have hst2 : s1.setBlk p (.row [vN', vP, .map m, .d (.i .i64 (endAt 1 ns : Nat))]) = some s2 := by rw [hs2]; exact setBlk_put hfl1
  have hst4 : s3.setBlk p (.row [vN', vP', .map m, .d (.i .i64 (endAt 1 ns : Nat))]) = some s4 := by rw [hs4]; exact setBlk_put hfl3
  have hst6 : s5.setBlk p (.row [vN', vP', .map m, .d (.i .i64 (endAt 1 (ns ++ [s]) : Nat))]) = some s6 := by rw [hs6]; exact setBlk_put hfl5
  have k3 : Kp s2 s3 (TR p m) (TT tn tp ns) := b4.mono (fun _ _ e => e.elim) fun u _ ⟨e1, e2⟩ => ⟨fun e => e1 (by simp [e, plcs]), .inr e2⟩
  have k4 : Kp s3 s4 (TR p m) (TT tn tp ns) := by rw [hs4]; exact .put (.inl rfl)
  have k5 : Kp s4 s5 (TR p m) (TT tn tp ns) := by rw [hs5]; exact .putM (.inr rfl)
  have k6 : Kp s5 s6 (TR p m) (TT tn tp ns) := by rw [hs6]; exact .put (.inl rfl)
  have kk : Kp st s6 (TR p m) (TT tn tp ns) := k1.trans (k2.trans (k3.trans (k4.trans (k5.trans k6))))
  have hps : s6.floor = 0 ∧ s6.tfloor = 0 := ⟨kk.floor.trans h.fl, kk.tfloor.trans h.tf⟩
  -- tokens
  have htl : st.tips.length ≤ s1.tips.length := a4.tlen
  have ht2 : s2.tips = s1.tips := by rw [hs2]; rfl
  have htip : s6.tips = s3.tips := by rw [hs6, hs5, hs4]; rfl
  have hne' : tn' ≠ tp' := by
    have l1 := a2.lt (by simp)
    rcases b5 with ⟨c0, rfl⟩ | rfl
    · have hne : ns ≠ [] := fun e => c0 (by simp [e, plcs])
      rcases a5 with ⟨_, rfl⟩ | rfl
      · exact h.tt hne
      · have := hP.lt c0
        omega
    · rw [ht2]
      omega
  have hN6 : NL s6 vN' tn' ((ns ++ [s]).map .s) := by
    rw [List.map_append]
    have := ((a2.keep (T := fun _ => False) (R := TR p m) (by rw [hs2]; exact .put (.inl rfl)) fun _ e => e : NL s2 _ _ _).keep b4 fun _ e => ?_).keep (st' := s6) (T := fun _ => False) (R := TR p m) ?_ fun _ e => e
    · exact this
    · rcases a5 with ⟨c0, rfl⟩ | rfl
      · have hne : ns ≠ [] := fun e => c0 (by simp [e])
        exact h.tt hne e.2
      · have := hP.lt e.1
        omega
    · have q4 : Kp s3 s4 (TR p m) (fun _ => False) := by rw [hs4]; exact .put (.inl rfl)
      have q5 : Kp s4 s5 (TR p m) (fun _ => False) := by rw [hs5]; exact .putM (.inr rfl)
      have q6 : Kp s5 s6 (TR p m) (fun _ => False) := by rw [hs6]; exact .put (.inl rfl)
      exact q4.trans (q5.trans q6)
  have hP6 : NL s6 vP' tp' ((plcs 1 (ns ++ [s])).map fun (a : Nat) => .i .i64 (a : Int)) := by
    rw [plcs_app, List.map_append]
    refine b2.keep (st' := s6) (T := fun _ => False) (R := TR p m) ?_ fun _ e => e
    have q4 : Kp s3 s4 (TR p m) (fun _ => False) := by rw [hs4]; exact .put (.inl rfl)
    have q5 : Kp s4 s5 (TR p m) (fun _ => False) := by rw [hs5]; exact .putM (.inr rfl)
    have q6 : Kp s5 s6 (TR p m) (fun _ => False) := by rw [hs6]; exact .put (.inl rfl)
    exact q4.trans (q5.trans q6)
  refine ⟨s6, tn', tp', ?_, ⟨hps.1, hps.2, ⟨vN', vP', ?_, hN6, hP6⟩, ?_, fun _ => hne', ?_, ?_⟩, kk, ?_⟩
  · rw [den_fn (hp.at 8 rfl) rfl rfl, start_raw _ rfl]
    simp [F147_strs_Table_put, hrow, hcl, fillV, lay, ofDs, reps, a1, hrow1, o1, hst2, hrow2, b1, hrow3, o3, hst4, hrow4, hms, hrow5, w1, w2, hst6]
  · rw [hs6]
    exact row_put_eq (row_lt hrow5)
  · rw [hs6, mapOf_put hpm, hs5]
    exact mapOf_putM (map_lt hmap4)
  · rw [List.nodup_append]
    refine ⟨h.nd, by simp, fun x hx y hy e => ?_⟩
    simp only [List.mem_singleton] at hy
    exact hn (by rw [← hy, ← e]; exact hx)
  · intro x hx
    rcases List.mem_append.1 hx with hx | hx
    · exact h.ok x hx
    · simp only [List.mem_singleton] at hx
      rw [hx]; exact hs
  · rcases a5 with ⟨c0, rfl⟩ | rfl
    · have hne : ns ≠ [] := fun e => c0 (by simp [e])
      rcases b5 with ⟨_, rfl⟩ | rfl
      · exact .inl ⟨rfl, rfl, hne⟩
      · rcases hP2 with ⟨e, _⟩ | hP2
        · exact absurd (by simpa using e) (plcs_ne (a := 1) hne)
        · exfalso
          obtain ⟨e0, rfl, e1, _⟩ := hP2
          -- the token stays
          have := (List.getElem?_eq_some_iff.1 e1).1
          simp only [appV, vw] at b1
          split at b1
          · simp only [Option.some.injEq, Prod.mk.injEq] at b1
            have hv := b1.1
            rcases b2 with ⟨f0, _⟩ | ⟨_, f1, _⟩
            · simp at f0
            · rw [f1] at hv
              simp only [V.own.injEq] at hv
              omega
          · cases b1
    · right
      refine ⟨Nat.le_refl _, ?_⟩
      rcases b5 with ⟨c0, rfl⟩ | rfl
      · have hne : ns ≠ [] := fun e => c0 (by simp [e, plcs])
        rcases hN with ⟨e, _⟩ | hN
        · exact absurd (by simpa using e) hne
        · exfalso
          obtain ⟨e0, rfl, e1, _⟩ := hN
          have := (List.getElem?_eq_some_iff.1 e1).1
          simp only [appV, vw] at a1
          split at a1
          · simp only [Option.some.injEq, Prod.mk.injEq] at a1
            have hv := a1.1
            rcases a2 with ⟨f0, _⟩ | ⟨_, f1, _⟩
            · simp at f0
            · rw [f1] at hv
              simp only [V.own.injEq] at hv
              omega
          · cases a1
      · rw [ht2]
        exact htl
end
end Go.Sh
