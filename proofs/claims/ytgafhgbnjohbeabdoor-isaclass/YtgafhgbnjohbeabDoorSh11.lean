/- Memory made and written. -/
import Derived.Test.YtgafhgbnjohbeabDoorSh10
import Derived.Lib.ConvBytes
import Derived.Laws.BytesArg
set_option linter.unusedVariables false
set_option linter.unusedSimpArgs false
namespace Go.Sh
open Go.RowKit
section
variable {P : Program} {Pr : Prog} {κ : K} {st : St}

/-- A computation that gives a value, and what becomes of the tie. -/
def Mem (P : Program) (Pr : Prog) (κ : K) (st' : St) (z : V) (s : Sem Value) : Prop := ∃ κ' v, s.run P κ.w = .ok v κ'.w ∧ κ.le κ' ∧ Inv Pr κ' st' ∧ Rep κ' z v
theorem Mem.pure (hi : Inv Pr κ st) {z : V} {s : Sem Value} (h : ∃ v, s.run P κ.w = .ok v κ.w ∧ Rep κ z v) : Mem P Pr κ st z s := by
  obtain ⟨v, h1, h2⟩ := h
  exact ⟨κ, v, h1, K.le.refl κ, hi, h2⟩
theorem Mem.pure1 (hi : Inv Pr κ st) {z : V} {s : Sem Value} (h : ∃ v, s.run P κ.w = .ok v κ.w ∧ Rep1 κ z v) : Mem P Pr κ st z s := by
  obtain ⟨v, h1, h2⟩ := h
  exact ⟨κ, v, h1, K.le.refl κ, hi, Rep.of1 h2⟩

/-! ### Boxes -/
theorem box_mem (hi : Inv Pr κ st) {elem : TypeId} {x : V} (hx1 : x.ok1 = true) {vx : Value} (hx : Rep κ x vx) : Mem P Pr κ (st.push (.row x.cs)) (.ptr st.heap.length 0) (Instr.box elem vx) := by
  obtain ⟨h1, h2⟩ := hi.pushI (.cells vx.cells elem) (.row x.cs) ⟨_, _, rfl, Rep.cells hx hx1⟩
  refine ⟨_, .pointer (some ⟨κ.w.heap.size, 0, none⟩), ?_, h1, h2, κ.w.heap.size, ?_, rfl⟩
  · simp [Instr.box, newVar, newRow]
    rfl
  · rw [← hi.len]
    exact push_last κ _
theorem alloc_mem (hi : Inv Pr κ st) {elem : TypeId} {z : List D} (hz : zeroIs P elem z = true) : Mem P Pr κ (st.push (.row (ofDs z))) (.ptr st.heap.length 0) (Instr.alloc elem true (.tuple #[])) := by
  obtain ⟨i, zv, h1, h2, h3, h4⟩ := zeroIs_spec hz
  obtain ⟨k1, k2⟩ := hi.pushI (.cells zv.cells elem) (.row (ofDs z)) ⟨_, _, rfl, okDs_C h3⟩
  refine ⟨_, .pointer (some ⟨κ.w.heap.size, 0, none⟩), ?_, k1, k2, κ.w.heap.size, ?_, rfl⟩
  · simp [Instr.alloc, zeroValue, typeInfo, h1, h2, newVar, newRow]
    rfl
  · rw [← hi.len]
    exact push_last κ _
/-- The cells of a new row that nobody will write. -/
theorem imm_new (hi : Inv Pr κ st) {arr : Array Value} {e : TypeId} {fr : Nat × Nat} {w' : World} (hw : w'.heap[κ.w.heap.size]? = some (.cells arr e fr)) {ds : List D} {l : List Value} (hl : All2 (RepD κ.L (κ.to w').imm) ds l) (hp : ∀ (j : Nat) (x : Value), l[j]? = some x → arr[j]? = some x) : RepL κ.L (κ.to w').imm ds κ.w.heap.size 0 := by
  refine RepL.of fun j c hj => ?_
  obtain ⟨x, hx, hr⟩ := hl.get hj
  refine ⟨x, ⟨?_, fun hwr => ?_⟩, hr⟩
  · rw [Nat.zero_add]
    show w'.cell? _ = _
    rw [cell_of_row w' _ j arr e fr hw]
    exact hp j x hx
  · have := hi.muts _ _ hwr
    omega
theorem boxI_mem (hi : Inv Pr κ st) {elem : TypeId} {x : V} (hx1 : x.ok1 = true) {ds : List D} (hd : toDs x.cs = some ds) {vx : Value} (hx : Rep κ x vx) : Mem P Pr κ st (.ep ds) (Instr.box elem vx) := by
  obtain ⟨h1, h2⟩ := hi.grow (World.grownBy_alloc κ.w (.cells vx.cells elem) none)
  refine ⟨_, .pointer (some ⟨κ.w.heap.size, 0, none⟩), ?_, h1, h2, _, rfl, .inr ⟨κ.w.heap.size, 0, rfl, ?_⟩⟩
  · simp [Instr.box, newVar, newRow]
    rfl
  · have ha := (toDs_rep hd (Rep.cells hx hx1)).mono fun d v hr => RepD.mono h1.imm d v hr
    exact imm_new hi (heap_alloc_new κ.w _) ha (fun j x hj => by simpa using hj)
/-- A slice over a new row that nobody will write. -/
theorem slNew_mem (hi : Inv Pr κ st) {arr : Array Value} {e : TypeId} {n cap : Nat} (hc : n ≤ cap) {cs : List V} {ds : List D} (hd : toDs cs = some ds) {k : Nat} (ha : All2 (RepC κ) cs (arr.toList.take k)) {s : Sem Value}
    (hr : s.run P κ.w = .ok (.slice (some ⟨κ.w.heap.size, 0, none⟩) n cap) (κ.w.alloc (.cells arr e))) : Mem P Pr κ st (.d (.sl n true ds)) s := by
  obtain ⟨h1, h2⟩ := hi.grow (World.grownBy_alloc κ.w (.cells arr e) none)
  refine ⟨_, _, hr, h1, h2, ?_⟩
  show RepD _ _ _ _
  simp only [RepD]
  refine ⟨_, cap, rfl, hc, rfl, by simp, .inr ⟨κ.w.heap.size, 0, rfl, ?_⟩⟩
  have hb := (toDs_rep hd ha).mono fun d v hr => RepD.mono h1.imm d v hr
  exact imm_new hi (heap_alloc_new κ.w _) hb (fun j x hj => by have := (take_get hj).2; simpa using this)
theorem slRef_mem (hi : Inv Pr κ st) {arr : Array Value} {e : TypeId} {n cap size : Nat} (hc : n ≤ cap) {cs : List V} (ha : All2 (RepC κ) cs arr.toList) {s : Sem Value}
    (hr : s.run P κ.w = .ok (.slice (some ⟨κ.w.heap.size, 0, none⟩) n cap) (κ.w.alloc (.cells arr e))) : Mem P Pr κ (st.push (.row cs)) (.rsl size st.heap.length 0 n cap) s := by
  obtain ⟨h1, h2⟩ := hi.pushI (.cells arr e) (.row cs) ⟨_, _, rfl, ha⟩
  refine ⟨_, _, hr, h1, h2, κ.w.heap.size, 0, ?_, rfl, hc, .inr rfl⟩
  rw [← hi.len]
  exact push_last κ _

/-! ### Stores -/
theorem lay_arr {arr : Array Value} {off : Nat} {l : List Value} : (arr.toList.take (off + 0) ++ l ++ arr.toList.drop (off + 0 + l.length)) = lay arr.toList off l := by
  simp [lay]
theorem write_at (hi : Inv Pr κ st) {id b off : Nat} {cs : List V} {arr : Array Value} {e : TypeId} (hrow : st.row id = some cs) (h1 : κ.ρ[id]? = some b) (h3 : κ.w.heap[b]? = some (.cells arr e (0, 0))) (h4 : All2 (RepC κ) cs arr.toList) (h5 : ∀ o, κ.wr b o)
    {xs : List V} {l : List Value} (hx : All2 (RepC κ) xs l) (hlen : off + xs.length ≤ cs.length) {st' : St} (hst : st.setBlk id (.row (lay cs off xs)) = some st') :
    ∃ κ', (storeCells ⟨b, off, none⟩ l).run P κ.w = .ok () κ'.w ∧ κ.le κ' ∧ Inv Pr κ' st' := by
  unfold St.setBlk at hst
  split at hst
  case isFalse => cases hst
  simp only [Option.some.injEq] at hst
  subst hst
  have hl := hx.length
  have hl4 : cs.length = arr.size := by simpa using h4.length
  have hrun := run_storeCells_at P b off e l 0 arr κ.w h3 (by omega) (All2.one hx)
  rw [lay_arr] at hrun
  have hp := hi.put (w' := κ.w.setRow b (lay arr.toList off l).toArray) (blk := .row (lay cs off xs)) (o := .cells (lay arr.toList off l).toArray e (0, 0)) h1 (fun k hk => setRow_other κ.w b k _ hk) (by simp) rfl rfl rfl
    (setRow_heap κ.w b arr _ e _ h3) (.inl h5) ⟨_, _, rfl, by simpa using h4.lay hx off, h5⟩
  exact ⟨_, hrun, hp.1, hp.2⟩
theorem store_mem (hi : Inv Pr κ st) {t : TypeId} {size : Nat} (hs : szIs P t size = true) {p x : V} {st' : St} (h : storeV size st p x = some st') {vp vx : Value} (hp : Rep κ p vp) (hx : Rep κ x vx) :
    ∃ κ', (Instr.storeAt t vp vx).run P κ.w = .ok () κ'.w ∧ κ.le κ' ∧ Inv Pr κ' st' := by
  unfold storeV at h
  split at h
  · rename_i id off
    split at h
    · rename_i cs hrow
      split at h
      · rename_i hc
        obtain ⟨hx1, hc1, hc2⟩ := hc
        obtain ⟨b, h1, rfl⟩ := hp
        obtain ⟨b', arr, e, h2, h3, h4, h5⟩ := hi.rows id cs hrow
        obtain rfl : b = b' := by rw [h1] at h2; exact Option.some.inj h2
        have hcells := Rep.cells hx hx1
        obtain ⟨κ', hr, k1, k2⟩ := write_at (P := P) hi hrow h1 h3 h4 h5 hcells (by omega) h
        refine ⟨κ', ?_, k1, k2⟩
        have hsz : vx.cells.size = size := by
          have : x.cs.length = vx.cells.size := by simpa using hcells.length
          omega
        show (Instr.storeAt t (.pointer (some ⟨b, off, none⟩)) vx).run P κ.w = _
        simp [Instr.storeAt, Instr.sureAddr, storeVar, run_sizeOf hs, hsz, hr]
      · cases h
    · cases h
  · cases h

/-! ### What a copy or an append reads -/
theorem byteCells_rep : ∀ (l : List UInt8), All2 (RepD κ.L κ.imm) (byteCells l) (l.map fun b => Value.int .u8 b.toNat)
  | [] => .nil
  | b :: l => .cons (repD_i.2 rfl) (byteCells_rep l)
theorem src_cells (hi : Inv Pr κ st) {size : Nat} {x : V} {m : Nat} {ds : List D} (h : vw size st x = some (m, ds)) (hlen : ds.length = m * size) {vx : Value} (hx : Rep κ x vx) :
    ∃ l, All2 (RepD κ.L κ.imm) ds l ∧ (∀ P w, w.heap = κ.w.heap → (Builtin.lenOf vx).run P w = .ok m w ∧ ∀ n, n ≤ m → (Builtin.firstCells size n vx).run P w = .ok (l.take (n * size)).toArray w) ∧ ∀ v ∈ l, v.oneCell' = true := by
  have one : ∀ {l : List Value}, All2 (RepD κ.L κ.imm) ds l → ∀ v ∈ l, v.oneCell' = true := fun ha => All2.one (ofDs_rep ha)
  have hD : ∀ (nz : Bool), RepD κ.L κ.imm (.sl m nz ds) vx → ∃ l, All2 (RepD κ.L κ.imm) ds l ∧ (∀ P w, w.heap = κ.w.heap → (Builtin.lenOf vx).run P w = .ok m w ∧ ∀ n, n ≤ m → (Builtin.firstCells size n vx).run P w = .ok (l.take (n * size)).toArray w) ∧ ∀ v ∈ l, v.oneCell' = true := by
    intro nz hd
    simp only [RepD] at hd
    obtain ⟨A, cap, rfl, h1, h2, h3, h4⟩ := hd
    rcases h4 with rfl | ⟨b, o, rfl, hl⟩
    · simp only [List.length_nil] at hlen
      refine ⟨[], .nil, fun P w hw => ⟨by simp [Builtin.lenOf], fun n hn => ?_⟩, by simp⟩
      have h0 : n * size = 0 := by
        rcases Nat.eq_zero_or_pos size with hs | hs
        · simp [hs]
        · have : m = 0 := by
            rcases Nat.eq_zero_or_pos m with hm | hm
            · exact hm
            · have := Nat.mul_pos hm hs; omega
          have : n = 0 := by omega
          simp [this]
      cases A with
      | none => simp [Builtin.firstCells]
      | some a => simp [Builtin.firstCells, h0, loadCells, loadCellsFrom]
    · obtain ⟨l, ha, hc⟩ := hl.vals
      have hll := ha.length
      refine ⟨l, ha, fun P w hw => ⟨by simp [Builtin.lenOf], fun n hn => ?_⟩, one ha⟩
      have hle : n * size ≤ m * size := Nat.mul_le_mul_right _ hn
      refine run_firstCells_some w size n ⟨b, o, none⟩ m cap _ (by rw [List.length_take]; omega) (fun j v hj => ?_)
      rw [Addr.add_lit]
      have := (hc j v (take_get hj).2).1
      rw [World.cell?_of_block (w := κ.w) (by rw [hw])]
      exact this
  unfold vw at h
  split at h
  · simp only [Option.some.injEq, Prod.mk.injEq] at h
    obtain ⟨rfl, rfl⟩ := h
    exact hD _ hx
  · simp only [Option.some.injEq, Prod.mk.injEq] at h
    obtain ⟨rfl, rfl⟩ := h
    exact hD _ hx.1
  · rename_i sz id off n cap
    split at h
    case isFalse => cases h
    rename_i hsz
    subst hsz
    simp only [Option.map_eq_some_iff, Prod.mk.injEq] at h
    obtain ⟨ds', hds, rfl, rfl⟩ := h
    unfold cellsAt at hds
    split at hds
    case h_2 => cases hds
    rename_i cs hrow
    split at hds
    case isFalse => cases hds
    rename_i hfit
    obtain ⟨b, o, h1, rfl, hcap, ho⟩ := hx
    obtain ⟨b', arr, e, h2, h3, h4, h5⟩ := hi.rows id cs hrow
    obtain rfl : b = b' := by rw [h1] at h2; exact Option.some.inj h2
    have ha := toDs_rep hds ((h4.drop off).take (n * sz))
    refine ⟨_, ha, fun P w hw => ⟨by simp [Builtin.lenOf], fun k hk => ?_⟩, one ha⟩
    have hll := ha.length
    have hle : k * sz ≤ n * sz := Nat.mul_le_mul_right _ hk
    refine run_firstCells_some w sz k ⟨b, o, none⟩ n cap _ (by rw [List.length_take]; omega) (fun j v hj => ?_)
    have hj' := (take_get (take_get hj).2).2
    have hjlt := (take_get (take_get hj).2).1
    rw [List.getElem?_drop] at hj'
    rw [Addr.add_lit]
    have hoo : o = off := by
      rcases ho with rfl | ho
      · have : n = 0 := by omega
        subst this
        simp at hjlt
      · exact ho
    subst hoo
    rw [World.cell?_of_block (w := κ.w) (by rw [hw]), cell_of_row κ.w b (o + j) arr e (0, 0) h3]
    simpa using hj'
  · split at h
    case isFalse => cases h
    rename_i l hs1
    subst hs1
    simp only [Option.some.injEq, Prod.mk.injEq] at h
    obtain ⟨rfl, rfl⟩ := h
    rw [rep_s] at hx
    subst hx
    have ha := byteCells_rep (κ := κ) l
    refine ⟨_, ha, fun P w hw => ⟨by simp [Builtin.lenOf, size_mk], fun n hn => ?_⟩, one ha⟩
    simp only [Builtin.firstCells, Sem.run_pure]
    congr 1
    rw [extract_mk]
    simp
  · cases h

/-! ### copy -/
theorem cpy_mem (hi : Inv Pr κ st) {dT sT ty elem : TypeId} {size : Nat} (hu : P.underlying dT = some (.slice elem)) (hs : szIs P elem size = true) {x y z : V} {st' : St} (h : cpyV size st x y = some (z, st')) {vx vy : Value} (hx : Rep κ x vx) (hy : Rep κ y vy) :
    Mem P Pr κ st' z (Builtin.copy_ #[dT, sT] ty #[vx, vy]) := by
  unfold cpyV at h
  split at h
  · rename_i sz id off n cap
    split at h
    · cases h
    rename_i hsz
    have hsz : sz = size := by simpa using hsz
    subst hsz
    split at h
    · rename_i cs m ds hrow hvw
      split at h
      case isFalse => cases h
      rename_i hc
      simp only [Option.map_eq_some_iff, Prod.mk.injEq] at h
      obtain ⟨st1, hst, rfl, rfl⟩ := h
      obtain ⟨l, ha, hrun, hone⟩ := src_cells hi hvw hc.2 hy
      obtain ⟨hr1, hr2⟩ := hrun P κ.w rfl
      obtain ⟨b, o, h1, rfl, hcap, ho⟩ := hx
      obtain ⟨b', arr, e, h2, h3, h4, h5⟩ := hi.rows id cs hrow
      obtain rfl : b = b' := by rw [h1] at h2; exact Option.some.inj h2
      have hll := ha.length
      have hmn : min m n * sz ≤ n * sz := Nat.mul_le_mul_right _ (Nat.min_le_right _ _)
      have hmm : min m n * sz ≤ m * sz := Nat.mul_le_mul_right _ (Nat.min_le_left _ _)
      have hcells : All2 (RepC κ) (ofDs (ds.take (min m n * sz))) (l.take (min m n * sz)) := ofDs_rep (ha.take _)
      have hlen1 : (ofDs (ds.take (min m n * sz))).length = min m n * sz := by
        simp only [ofDs, List.length_map, List.length_take]
        omega
      have key : ∃ κ', (storeCells ⟨b, o, none⟩ (l.take (min m n * sz))).run P κ.w = .ok () κ'.w ∧ κ.le κ' ∧ Inv Pr κ' st1 := by
        rcases ho with rfl | rfl
        · obtain rfl : n = 0 := by omega
          simp only [Nat.min_zero, Nat.zero_mul, List.take_zero] at hst hcells ⊢
          obtain ⟨κ', q1, q2, q3⟩ := write_at (P := P) (off := off) hi hrow h1 h3 h4 h5 (l := []) hcells (by simp [ofDs]; omega) hst
          simp only [storeCells, Sem.run_pure, Result.ok.injEq, true_and] at q1
          exact ⟨κ', by simp [storeCells, q1], q2, q3⟩
        · exact write_at (P := P) hi hrow h1 h3 h4 h5 hcells (by omega) hst
      obtain ⟨κ', q1, q2, q3⟩ := key
      refine ⟨κ', _, ?_, q2, q3, rep_i.2 rfl⟩
      have hmin : Nat.min m n = min m n := rfl
      simp [Builtin.copy_, run_underlying hu, hr1, run_sizeOf hs, hmin, hr2 (min m n) (Nat.min_le_left _ _), q1, goInt]
    · cases h
  · cases h
end
end Go.Sh
