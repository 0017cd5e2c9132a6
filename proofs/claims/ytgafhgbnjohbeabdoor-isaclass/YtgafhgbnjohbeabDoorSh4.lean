/- How the machine's world may move on, and what of the tie is kept. -/
import Derived.Test.YtgafhgbnjohbeabDoorSh3
set_option linter.unusedVariables false
set_option linter.unusedSimpArgs false
namespace Go.Sh
open Go.RowKit

theorem cell_block {w w' : World} {b o : Nat} (h : w'.heap[b]? = w.heap[b]?) : w'.cell? ⟨b, o, none⟩ = w.cell? ⟨b, o, none⟩ := World.cell?_of_block (w := w) h
theorem lt_of_cell {w : World} {b o : Nat} {x : Value} (h : w.cell? ⟨b, o, none⟩ = some x) : b < w.heap.size := World.block_lt_of_cell? w _ h
theorem own_lt' {w : World} {base : Nat} {e : TypeId} {size n : Nat} {v : Value} {xs : List Value} (h : w.ownsRow base e size v n xs) {g : Nat} (hg : v.ownBlock = some g) : base ≤ g ∧ g < w.heap.size := h.lt g hg
theorem St.row_lt {st : St} {id : Nat} {cs : List V} (h : st.row id = some cs) : id < st.heap.length := by
  unfold St.row at h
  split at h
  · rename_i hh; exact (List.getElem?_eq_some_iff.1 hh).1
  · cases h
theorem St.mapOf_lt {st : St} {id : Nat} {es : List (D × V)} (h : st.mapOf id = some es) : id < st.heap.length := by
  unfold St.mapOf at h
  split at h
  · rename_i hh; exact (List.getElem?_eq_some_iff.1 hh).1
  · cases h
theorem row_push {st : St} {b : Blk} {id : Nat} : (st.push b).row id = if id = st.heap.length then (match b with | .row cs => some cs | _ => none) else st.row id := by
  unfold St.row St.push
  simp only [List.getElem?_append]
  split
  · rename_i h
    split at h
    · rename_i hlt
      rw [if_neg (by omega), h]
    · rename_i hge
      by_cases he : id = st.heap.length
      · subst he
        simp at h
        subst h
        simp
      · rw [List.getElem?_eq_none (by simp; omega)] at h
        cases h
  · rename_i h
    split
    · rename_i he
      subst he
      cases b with
      | row cs => exact absurd (by simp) (h cs)
      | map es => rfl
    · rename_i he
      split
      · rename_i cs hcs
        have hlt := (List.getElem?_eq_some_iff.1 hcs).1
        exact absurd (by rw [if_pos hlt]; exact hcs) (h cs)
      · rfl
theorem mapOf_push {st : St} {b : Blk} {id : Nat} : (st.push b).mapOf id = if id = st.heap.length then (match b with | .map cs => some cs | _ => none) else st.mapOf id := by
  unfold St.mapOf St.push
  simp only [List.getElem?_append]
  split
  · rename_i h
    split at h
    · rename_i hlt
      rw [if_neg (by omega), h]
    · rename_i hge
      by_cases he : id = st.heap.length
      · subst he
        simp at h
        subst h
        simp
      · rw [List.getElem?_eq_none (by simp; omega)] at h
        cases h
  · rename_i h
    split
    · rename_i he
      subst he
      cases b with
      | map cs => exact absurd (by simp) (h cs)
      | row es => rfl
    · rename_i he
      split
      · rename_i cs hcs
        have hlt := (List.getElem?_eq_some_iff.1 hcs).1
        exact absurd (by rw [if_pos hlt]; exact hcs) (h cs)
      · rfl

section
variable {P : Prog} {κ : K} {st : St}

/-- New blocks that nobody will write, draws. -/
def K.to (κ : K) (w' : World) : K := { κ with w := w' }
theorem Inv.grow (hi : Inv P κ st) {w' : World} (hg : κ.w.grownBy w' none) : κ.le (κ.to w') ∧ Inv P (κ.to w') st := by
  have hb : ∀ b, b < κ.w.heap.size → w'.heap[b]? = κ.w.heap[b]? := fun b h => hg.block b h (by simp)
  have hle : κ.le (κ.to w') := ⟨rfl, rfl, fun b o x h => ⟨by have := lt_of_cell h.1; exact (cell_block (hb b this)).trans h.1, h.2⟩, fun _ _ h => h, fun _ tok h => ⟨tok, h, rfl, Nat.le_refl _, fun _ => rfl⟩, fun _ _ _ h => h⟩
  refine ⟨hle, ⟨hi.below.grown hg hi.below.size (by simp), hi.len, hi.tips, hi.nd, fun i b h => ⟨(hi.ρb i b h).1, Nat.lt_of_lt_of_le (hi.ρb i b h).2 hg.size⟩, ?_, ?_, ?_, hi.tdis, fun b o h => Nat.lt_of_lt_of_le (hi.muts b o h) hg.size, fun n c h => RepL.mono hle.imm _ _ _ (hi.globs n c h)⟩⟩
  · intro id cs h
    obtain ⟨b, arr, e, h1, h2, h3, h4⟩ := hi.rows id cs h
    exact ⟨b, arr, e, h1, (hb b (hi.ρb _ _ h1).2).trans h2, h3.mono fun _ _ => RepC.mono hle, h4⟩
  · intro id es h
    obtain ⟨b, arr, c, h1, h2, h3⟩ := hi.maps id es h
    exact ⟨b, arr, c, h1, (hb b (hi.ρb _ _ h1).2).trans h2, h3.mono fun _ _ => RepE.mono hle⟩
  · intro t tok h
    obtain ⟨⟨xs, h1⟩, h2⟩ := hi.toks t tok h
    exact ⟨⟨xs, h1.kept hg (by cases tok.v.ownBlock <;> simp)⟩, h2⟩
theorem grownBy_heap {w w' : World} (h : w'.heap = w.heap) (ho : w'.os = w.os) (ht : w'.tape = w.tape) (hp : w'.output = w.output) : w.grownBy w' none :=
  ⟨ho, ht, hp, by rw [h]; exact Nat.le_refl _, fun k _ _ => by rw [h]⟩

/-- A new block that the shadow heap holds. -/
def K.push (κ : K) (o : Obj) : K := { κ with w := κ.w.alloc o, wr := fun b o => κ.wr b o ∨ b = κ.w.heap.size, ρ := κ.ρ ++ [κ.w.heap.size] }
theorem K.le_push (hi : Inv P κ st) (o : Obj) : κ.le (κ.push o) := by
  refine ⟨rfl, rfl, ?_, ?_, fun _ tok h => ⟨tok, h, rfl, Nat.le_refl _, fun _ => rfl⟩, fun _ _ _ h => .inl h⟩
  · intro b o' x h
    have hlt := lt_of_cell h.1
    exact ⟨(cell_block (heap_alloc_old κ.w o b hlt)).trans h.1, fun hw => hw.elim h.2 (fun e => by omega)⟩
  · intro i b h
    show (κ.ρ ++ [_])[i]? = _
    rw [List.getElem?_append_left (List.getElem?_eq_some_iff.1 h).1]
    exact h
theorem get_push {κ : K} {o : Obj} {i b : Nat} (h : (κ.push o).ρ[i]? = some b) : (i < κ.ρ.length ∧ κ.ρ[i]? = some b) ∨ (i = κ.ρ.length ∧ b = κ.w.heap.size) := by
  have h : (κ.ρ ++ [κ.w.heap.size])[i]? = some b := h
  rw [List.getElem?_append] at h
  split at h
  · exact .inl ⟨by assumption, h⟩
  · rename_i hge
    have := (List.getElem?_eq_some_iff.1 h).1
    simp at this
    have he : i = κ.ρ.length := by omega
    subst he
    simp at h
    exact .inr ⟨rfl, h.symm⟩
theorem push_last (κ : K) (o : Obj) : (κ.push o).ρ[κ.ρ.length]? = some κ.w.heap.size := by
  show (κ.ρ ++ [_])[_]? = _
  simp
theorem Inv.pushI (hi : Inv P κ st) (o : Obj) (b : Blk)
    (hb : match b with
      | .row cs => ∃ arr e, o = .cells arr e (0, 0) ∧ All2 (RepC κ) cs arr.toList
      | .map es => ∃ arr clk, o = .map arr clk ∧ All2 (RepE κ) es arr.toList) : κ.le (κ.push o) ∧ Inv P (κ.push o) (st.push b) := by
  have hle := K.le_push hi o
  have hold : ∀ k, k < κ.w.heap.size → (κ.w.alloc o).heap[k]? = κ.w.heap[k]? := fun k h => heap_alloc_old κ.w o k h
  refine ⟨hle, ⟨hi.below.alloc hi.below.size o, ?_, hi.tips, ?_, ?_, ?_, ?_, ?_, hi.tdis, ?_, fun n c h => RepL.mono hle.imm _ _ _ (hi.globs n c h)⟩⟩
  · show (κ.ρ ++ [_]).length = (st.heap ++ [_]).length
    simp [hi.len]
  · intro i j c h1 h2
    rcases get_push h1 with ⟨_, h1⟩ | ⟨h1, h1'⟩ <;> rcases get_push h2 with ⟨_, h2⟩ | ⟨h2, h2'⟩
    · exact hi.nd i j c h1 h2
    · have := (hi.ρb _ _ h1).2; omega
    · have := (hi.ρb _ _ h2).2; omega
    · omega
  · intro i c h
    show _ ≤ _ ∧ _ < (κ.w.alloc o).heap.size
    rw [World.size_alloc]
    rcases get_push h with ⟨_, h⟩ | ⟨_, h⟩
    · have := hi.ρb _ _ h; exact ⟨this.1, by omega⟩
    · have := hi.below.size; exact ⟨by subst h; exact this, by omega⟩
  · intro id cs h
    rw [row_push] at h
    split at h
    · rename_i he
      cases b with
      | map es => cases h
      | row cs' =>
        simp only [Option.some.injEq] at h
        subst h
        obtain ⟨arr, e, rfl, ha⟩ := hb
        refine ⟨κ.w.heap.size, arr, e, ?_, heap_alloc_new κ.w _, ha.mono fun _ _ => RepC.mono hle, fun _ => .inr rfl⟩
        rw [he, ← hi.len]
        exact push_last κ _
    · obtain ⟨c, arr, e, h1, h2, h3, h4⟩ := hi.rows id cs h
      exact ⟨c, arr, e, hle.ρ _ _ h1, (hold c (hi.ρb _ _ h1).2).trans h2, h3.mono fun _ _ => RepC.mono hle, fun o => .inl (h4 o)⟩
  · intro id es h
    rw [mapOf_push] at h
    split at h
    · rename_i he
      cases b with
      | row cs => cases h
      | map es' =>
        simp only [Option.some.injEq] at h
        subst h
        obtain ⟨arr, clk, rfl, ha⟩ := hb
        refine ⟨κ.w.heap.size, arr, clk, ?_, heap_alloc_new κ.w _, ha.mono fun _ _ => RepE.mono hle⟩
        rw [he, ← hi.len]
        exact push_last κ _
    · obtain ⟨c, arr, clk, h1, h2, h3⟩ := hi.maps id es h
      exact ⟨c, arr, clk, hle.ρ _ _ h1, (hold c (hi.ρb _ _ h1).2).trans h2, h3.mono fun _ _ => RepE.mono hle⟩
  · intro t tok h
    obtain ⟨⟨xs, h1⟩, h2⟩ := hi.toks t tok h
    refine ⟨⟨xs, h1.alloc o⟩, fun g hg => ⟨fun i hh => ?_, fun o' ho => .inl ((h2 g hg).2 o' ho)⟩⟩
    rcases get_push hh with ⟨_, hh⟩ | ⟨_, hh⟩
    · exact (h2 g hg).1 i hh
    · have := (own_lt' h1 hg).2; omega
  · intro c o' h
    show c < (κ.w.alloc o).heap.size
    rw [World.size_alloc]
    rcases h with h | h
    · have := hi.muts c o' h; omega
    · omega

/-- A block of the shadow heap is written. -/
def K.set (κ : K) (b : Nat) (arr : Array Value) : K := κ.to (κ.w.setRow b arr)
theorem St.row_set {st : St} {id j : Nat} {b : Blk} (hid : id < st.heap.length) : St.row { st with heap := st.heap.set id (some b) } j = if j = id then (match b with | .row cs => some cs | _ => none) else st.row j := by
  unfold St.row
  simp only [List.getElem?_set]
  by_cases h : id = j
  · subst h
    simp only [hid, if_true]
    cases b <;> rfl
  · rw [if_neg h, if_neg (fun e => h e.symm)]
theorem St.mapOf_set {st : St} {id j : Nat} {b : Blk} (hid : id < st.heap.length) : St.mapOf { st with heap := st.heap.set id (some b) } j = if j = id then (match b with | .map cs => some cs | _ => none) else st.mapOf j := by
  unfold St.mapOf
  simp only [List.getElem?_set]
  by_cases h : id = j
  · subst h
    simp only [hid, if_true]
    cases b <;> rfl
  · rw [if_neg h, if_neg (fun e => h e.symm)]
/-- Whatever the new object is: all else stays. -/
theorem Inv.put (hi : Inv P κ st) {id b : Nat} {blk : Blk} {w' : World} {o : Obj} (hb : κ.ρ[id]? = some b) (hw : ∀ k, k ≠ b → w'.heap[k]? = κ.w.heap[k]?) (hs : w'.heap.size = κ.w.heap.size)
    (ho : w'.os = κ.w.os) (ht : w'.tape = κ.w.tape) (hp : w'.output = κ.w.output) (hnew : w'.heap[b]? = some o) (hmut : (∀ o, κ.wr b o) ∨ ∀ o x, κ.w.cell? ⟨b, o, none⟩ ≠ some x)
    (hblk : match blk with
      | .row cs => ∃ arr e, o = .cells arr e (0, 0) ∧ All2 (RepC κ) cs arr.toList ∧ ∀ o, κ.wr b o
      | .map es => ∃ arr clk, o = .map arr clk ∧ All2 (RepE κ) es arr.toList) : κ.le (κ.to w') ∧ Inv P (κ.to w') { st with heap := st.heap.set id (some blk) } := by
  have hid : id < st.heap.length := by rw [← hi.len]; exact (List.getElem?_eq_some_iff.1 hb).1
  have hle : κ.le (κ.to w') := by
    refine ⟨rfl, rfl, fun c o x h => ⟨?_, h.2⟩, fun _ _ h => h, fun _ tok h => ⟨tok, h, rfl, Nat.le_refl _, fun _ => rfl⟩, fun _ _ _ h => h⟩
    have hne : c ≠ b := by
      rintro rfl
      rcases hmut with hm | hm
      · exact h.2 (hm o)
      · exact hm o x h.1
    exact (cell_block (hw c hne)).trans h.1
  have hbelow : Below κ.w0.heap.size κ.w0 w' := hi.below.trans ⟨ho, ht, hp, by omega, fun k hk => hw k (by have := (hi.ρb _ _ hb).1; omega)⟩
  refine ⟨hle, ⟨hbelow, by show κ.ρ.length = (st.heap.set _ _).length; rw [List.length_set]; exact hi.len, hi.tips, hi.nd, fun i c h => ⟨(hi.ρb i c h).1, by show c < w'.heap.size; rw [hs]; exact (hi.ρb i c h).2⟩, ?_, ?_, ?_, hi.tdis, fun c o h => by show c < w'.heap.size; rw [hs]; exact hi.muts c o h, fun n c h => RepL.mono hle.imm _ _ _ (hi.globs n c h)⟩⟩
  · intro j cs h
    rw [St.row_set hid] at h
    split at h
    · rename_i he
      subst he
      cases blk with
      | map es => cases h
      | row cs' =>
        simp only [Option.some.injEq] at h
        subst h
        obtain ⟨arr, e, rfl, ha, hm⟩ := hblk
        exact ⟨b, arr, e, hb, hnew, ha.mono fun _ _ => RepC.mono hle, hm⟩
    · rename_i hne
      obtain ⟨c, arr, e, h1, h2, h3, h4⟩ := hi.rows j cs h
      exact ⟨c, arr, e, h1, (hw c (fun e => hne (hi.nd _ _ _ (e ▸ h1) hb))).trans h2, h3.mono fun _ _ => RepC.mono hle, h4⟩
  · intro j es h
    rw [St.mapOf_set hid] at h
    split at h
    · rename_i he
      subst he
      cases blk with
      | row es => cases h
      | map es' =>
        simp only [Option.some.injEq] at h
        subst h
        obtain ⟨arr, clk, rfl, ha⟩ := hblk
        exact ⟨b, arr, clk, hb, hnew, ha.mono fun _ _ => RepE.mono hle⟩
    · rename_i hne
      obtain ⟨c, arr, clk, h1, h2, h3⟩ := hi.maps j es h
      exact ⟨c, arr, clk, h1, (hw c (fun e => hne (hi.nd _ _ _ (e ▸ h1) hb))).trans h2, h3.mono fun _ _ => RepE.mono hle⟩
  · intro t tok h
    obtain ⟨⟨xs, h1⟩, h2⟩ := hi.toks t tok h
    refine ⟨⟨xs, h1.kept (row := some b) ⟨ho, ht, hp, by show κ.w.heap.size ≤ w'.heap.size; omega, fun k _ hk => hw k (fun e => hk (by rw [e]))⟩ ?_⟩, h2⟩
    cases hv : tok.v.ownBlock with
    | none => exact .inl rfl
    | some g =>
      right
      intro e
      simp only [Option.some.injEq] at e
      subst e
      exact (h2 _ hv).1 id hb

/-- What is dropped: blocks and rows from h, t on. What they held stays as it is for ever. -/
def K.cut (κ : K) (h t : Nat) : K := { κ with wr := fun b o => κ.wr b o ∧ ∀ i, h ≤ i → κ.ρ[i]? ≠ some b, ρ := κ.ρ.take h, tk := κ.tk.take t }
theorem K.le_cut {κ0 κ : K} (hle : κ0.le κ) {h t : Nat} (hh : κ0.ρ.length ≤ h) (ht : κ0.tk.length ≤ t) (hρ : ∀ (i b : Nat), κ.ρ[i]? = some b → κ.w0.heap.size ≤ b) : κ0.le (κ.cut h t) := by
  refine ⟨hle.L, hle.w0, fun b o x hx => ⟨(hle.imm b o x hx).1, fun hw => (hle.imm b o x hx).2 hw.1⟩, fun i b hb => ?_, fun i tok hi => ?_, fun b o hb hw => ⟨hle.wr b o hb hw, fun i _ hib => by have := hρ i b hib; rw [hle.w0] at this; omega⟩⟩
  · show (κ.ρ.take h)[i]? = _
    have := (List.getElem?_eq_some_iff.1 hb).1
    rw [List.getElem?_take, if_pos (by omega)]
    exact hle.ρ i b hb
  · have := (List.getElem?_eq_some_iff.1 hi).1
    obtain ⟨tok', h1, h2⟩ := hle.tk i tok hi
    refine ⟨tok', ?_, h2⟩
    show (κ.tk.take t)[i]? = _
    rw [List.getElem?_take, if_pos (by omega)]
    exact h1
/-- What is pure data stays. -/
theorem K.imm_cut {h t : Nat} : ∀ b o x, κ.imm b o x → (κ.cut h t).imm b o x := fun b o x hx => ⟨hx.1, fun hw => hx.2 hw.1⟩
theorem take_get {α : Type} {l : List α} {n i : Nat} {x : α} (h : (l.take n)[i]? = some x) : i < n ∧ l[i]? = some x := by
  rw [List.getElem?_take] at h
  split at h
  · exact ⟨by assumption, h⟩
  · cases h
theorem esc_rep (hi : Inv P κ st) {h t : Nat} {x z : V} (hz : escC st h t x = some z) {v : Value} (hr : RepC κ x v) : RepC (κ.cut h t) z v := by
  cases x with
  | d d =>
    simp only [escC, Option.some.injEq] at hz
    subst hz
    exact RepD.mono K.imm_cut _ _ hr
  | own sz n nz cs k =>
    simp only [escC] at hz
    split at hz
    · rename_i hk
      simp only [Option.some.injEq] at hz
      subst hz
      obtain ⟨h1, tok, h2, h3⟩ := hr
      refine ⟨RepD.mono K.imm_cut _ _ h1, tok, ?_, h3⟩
      show (κ.tk.take t)[k]? = _
      rw [List.getElem?_take, if_pos hk]
      exact h2
    · simp only [Option.some.injEq] at hz
      subst hz
      exact RepD.mono K.imm_cut _ _ hr.1
  | ptr id off =>
    simp only [escC] at hz
    split at hz
    · rename_i hk
      simp only [Option.some.injEq] at hz
      subst hz
      obtain ⟨b, h1, h2⟩ := hr
      refine ⟨b, ?_, h2⟩
      show (κ.ρ.take h)[id]? = _
      rw [List.getElem?_take, if_pos hk]
      exact h1
    · cases hz
  | ep cs =>
    simp only [escC, Option.some.injEq] at hz
    subst hz
    obtain ⟨A, h1, h2⟩ := hr
    exact ⟨A, h1, h2.imp id fun ⟨b, o, h3, h4⟩ => ⟨b, o, h3, RepL.mono K.imm_cut _ _ _ h4⟩⟩
  | map id =>
    simp only [escC] at hz
    split at hz
    · rename_i hk
      simp only [Option.some.injEq] at hz
      subst hz
      obtain ⟨b, h1, h2⟩ := hr
      refine ⟨b, ?_, h2⟩
      show (κ.ρ.take h)[id]? = _
      rw [List.getElem?_take, if_pos hk]
      exact h1
    · cases hz
  | rsl size id off n cap =>
    simp only [escC] at hz
    split at hz
    · rename_i hk
      simp only [Option.some.injEq] at hz
      subst hz
      obtain ⟨b, o, h1, h2⟩ := hr
      refine ⟨b, o, ?_, h2⟩
      show (κ.ρ.take h)[id]? = _
      rw [List.getElem?_take, if_pos hk]
      exact h1
    · rename_i hk
      simp only [Option.map_eq_some_iff] at hz
      obtain ⟨ds, hds, rfl⟩ := hz
      unfold cellsAt at hds
      split at hds
      case h_2 => cases hds
      rename_i cs hrow
      split at hds
      case isFalse => cases hds
      rename_i hlen
      obtain ⟨b, o, h1, rfl, hcap, ho⟩ := hr
      obtain ⟨b', arr, e, h2, h3, h4, h5⟩ := hi.rows id cs hrow
      obtain rfl : b = b' := by rw [h1] at h2; exact Option.some.inj h2
      show RepD _ _ _ _
      simp only [RepD]
      have hA := toDs_rep hds ((h4.drop off).take (n * size))
      rcases ho with rfl | rfl
      · obtain rfl : n = 0 := by omega
        refine ⟨_, 0, rfl, hcap, rfl, by simp, .inl ?_⟩
        have := hA.length
        simp only [Nat.zero_mul, List.take_zero, List.length_nil] at this
        exact List.eq_nil_of_length_eq_zero this
      refine ⟨_, cap, rfl, hcap, rfl, by simp, .inr ⟨b, o, rfl, RepL.of fun j c hj => ?_⟩⟩
      obtain ⟨x, hx, hxd⟩ := hA.get hj
      refine ⟨x, ⟨?_, fun hw => hw.2 id (by omega) h1⟩, RepD.mono K.imm_cut _ _ hxd⟩
      rw [List.getElem?_take] at hx
      split at hx
      · rw [List.getElem?_drop] at hx
        show κ.w.cell? _ = _
        rw [cell_of_row κ.w b (o + j) arr e (0, 0) h3]
        simpa using hx
      · cases hx
  | agg => exact hr.elim
  | tup => exact hr.elim
  | un => exact hr.elim
theorem escs_rep (hi : Inv P κ st) {h t : Nat} : ∀ {xs zs : List V}, escs st h t xs = some zs → ∀ {l : List Value}, All2 (RepC κ) xs l → All2 (RepC (κ.cut h t)) zs l
  | [], zs, hz, l, ha => by
    simp only [escs, Option.some.injEq] at hz
    subst hz
    cases ha
    exact .nil
  | x :: xs, zs, hz, l, ha => by
    simp only [escs] at hz
    split at hz
    · rename_i y hy
      split at hz
      · rename_i ys hys
        simp only [Option.some.injEq] at hz
        subst hz
        cases ha with
        | cons h1 h2 => exact .cons (esc_rep hi hy h1) (escs_rep hi hys h2)
      · cases hz
    · cases hz
theorem esc1_rep (hi : Inv P κ st) {h t : Nat} {x z : V} (hz : esc1 st h t x = some z) {v : Value} (hr : Rep1 κ x v) : Rep1 (κ.cut h t) z v := by
  unfold esc1 at hz
  split at hz
  · simp only [Option.map_eq_some_iff] at hz
    obtain ⟨zs, hzs, rfl⟩ := hz
    obtain ⟨l, rfl, ha⟩ := hr
    exact ⟨l, rfl, escs_rep hi hzs ha⟩
  · rename_i hna
    by_cases hu : x = .un
    · subst hu; simp [escC] at hz
    · exact Rep1.ofC (esc_rep hi hz (Rep1.toC hr hu (fun cs e => hna cs e)))
theorem esc1s_rep (hi : Inv P κ st) {h t : Nat} : ∀ {xs zs : List V}, esc1s st h t xs = some zs → ∀ {l : List Value}, All2 (Rep1 κ) xs l → All2 (Rep1 (κ.cut h t)) zs l
  | [], zs, hz, l, ha => by
    simp only [esc1s, Option.some.injEq] at hz
    subst hz
    cases ha
    exact .nil
  | x :: xs, zs, hz, l, ha => by
    simp only [esc1s] at hz
    split at hz
    · rename_i y hy
      split at hz
      · rename_i ys hys
        simp only [Option.some.injEq] at hz
        subst hz
        cases ha with
        | cons h1 h2 => exact .cons (esc1_rep hi hy h1) (esc1s_rep hi hys h2)
      · cases hz
    · cases hz
theorem escT_rep (hi : Inv P κ st) {h t : Nat} {x z : V} (hz : esc st h t x = some z) {v : Value} (hr : Rep κ x v) : Rep (κ.cut h t) z v := by
  unfold esc at hz
  split at hz
  · simp only [Option.map_eq_some_iff] at hz
    obtain ⟨zs, hzs, rfl⟩ := hz
    obtain ⟨l, rfl, ha⟩ := hr
    exact ⟨l, rfl, esc1s_rep hi hzs ha⟩
  · rename_i hna
    exact Rep.of1 (esc1_rep hi hz (Rep.to1 hr (fun vs e => hna vs e)))

/-- The state behind a cut. -/
def St.cut (st : St) (h t : Nat) (f tf : Nat) : St := { heap := st.heap.take h, tips := st.tips.take t, floor := f, tfloor := tf }
/-- A heap's cells that hold nothing of what is dropped. -/
def keepsC (h t : Nat) (x : V) : Prop := match x with
  | .own _ _ _ _ k => k < t
  | .ptr id _ => id < h
  | .rsl _ id .. => id < h
  | .map id => id < h
  | _ => True
end
end Go.Sh
