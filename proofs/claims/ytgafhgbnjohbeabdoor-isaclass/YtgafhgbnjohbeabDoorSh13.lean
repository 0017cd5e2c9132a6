/- append, make, conversions between strings and bytes: what the checker's facts give. -/
import Derived.Test.YtgafhgbnjohbeabDoorSh12
set_option linter.unusedVariables false
set_option linter.unusedSimpArgs false
namespace Go.Sh
open Go.RowKit
section
variable {P : Program} {Pr : Prog} {κ : K} {st : St}

theorem app_mem (hi : Inv Pr κ st) {T U ty e : TypeId} {size bytes : Nat} (hu : P.underlying T = some (.slice e)) (hxt : ∃ d, P.underlying U = some d ∧ ∀ k, d ≠ .int k) (hz : zeroHas P e = true) (hs : szIs P e size = true) (hby : bytesIs P e bytes = true)
    {s x r : V} {st' : St} (h : appV size bytes st s x = some (r, st')) {vs vx : Value} (hvs : Rep κ s vs) (hvx : Rep κ x vx) : Mem P Pr κ st' r (Builtin.append_ #[T, U] ty #[vs, vx]) := by
  unfold appV at h
  split at h
  · split at h
    · rename_i m ds hvw
      split at h
      · rename_i hc
        obtain ⟨c1, c2, c3, c4, c5, c6, c7⟩ := hc
        simp only [Option.some.injEq, Prod.mk.injEq] at h
        obtain ⟨rfl, rfl⟩ := h
        subst c1
        exact app_own hi hu hxt hz hs hby hvw c3 c4 c5 c6 c7 hvs hvx
      · cases h
    · cases h
  · split at h
    · rename_i m ds hvw
      split at h
      · rename_i hc
        obtain ⟨c5, c6, c7⟩ := hc
        simp only [Option.some.injEq, Prod.mk.injEq] at h
        obtain ⟨rfl, rfl⟩ := h
        have hvs : RepD _ _ _ _ := hvs
        simp only [RepD] at hvs
        obtain ⟨A, cap, rfl, d1, d2, d3, d4⟩ := hvs
        have hA : A = none := by cases A <;> simp at d2; rfl
        subst hA
        have hcap := d3 rfl
        subst hcap
        obtain ⟨k1, k2⟩ := hi.tip size
        have hvw' : vw size { st with tips := st.tips ++ [0] } x = some (m, ds) := by
          rw [← hvw]
          cases x <;> rfl
        have hm := app_own (P := P) (ty := ty) (T := T) (U := U) (t := st.tips.length) (n := 0) (nz := false) (cs := []) k2 hu hxt hz hs hby hvw' (by simp) (by simp) (by simpa using c5) (by simpa using c6) c7 (tip_rep hi size) (Rep.mono k1 hvx)
        obtain ⟨κ', v, m1, m2, m3, m4⟩ := hm
        refine ⟨κ', v, m1, k1.trans m2, ?_, ?_⟩
        · simpa using m3
        · simpa using m4
      · cases h
    · cases h
  · cases h
theorem room_spec {bytes : Nat} {x : V} {n : Nat} (h : room bytes x = some n) {v : Value} (hx : Rep κ x v) : ∃ k, v = .int k (n : Int) ∧ n * bytes ≤ 281474976710656 ∧ n ≤ 281474976710656 := by
  unfold room at h
  split at h
  · split at h
    · rename_i k i hc
      simp only [Option.some.injEq] at h
      subst h
      rw [rep_i] at hx
      exact ⟨_, by rw [hx, Int.toNat_of_nonneg hc.1], hc.2.1, by omega⟩
    · cases h
  · cases h
theorem run_make' {w : World} {t e : TypeId} {z : List D} {bytes n m : Nat} (hu : P.underlying t = some (.slice e)) (hz : zeroIs P e z = true) (hby : bytesIs P e bytes = true) (hnm : n ≤ m) (hb : m * bytes ≤ 281474976710656) (hm : m ≤ 281474976710656) (k k' : IntKind) :
    ∃ zl, All2 (RepD κ.L κ.imm) z zl ∧ (Instr.makeSlice t (.int k (n : Int)) (.int k' (m : Int))).run P w = .ok (.slice (some ⟨w.heap.size, 0, none⟩) n m) (w.alloc (.cells (reps m zl).toArray e)) := by
  obtain ⟨i, zv, h1, h2, h3, h4⟩ := zeroIs_spec hz
  have h6 : i.bytes = bytes := by
    unfold bytesIs at hby
    rw [h1] at hby
    simpa using hby
  subst h6
  have hbi : (i.bytes : Int) * (m : Int) ≤ 281474976710656 := by
    have : ((i.bytes * m : Nat) : Int) ≤ 281474976710656 := by rw [Nat.mul_comm]; omega
    rwa [Int.natCast_mul] at this
  have hr := run_make (P := P) w t e i zv hu h1 h2 k k' n m (by omega) (by omega) hbi (by omega)
  simp only [Int.toNat_natCast] at hr
  refine ⟨zv.cells.toList, okDs_rep h3, ?_⟩
  rw [hr, ← h4]
  have : (madeCells zv.cells (m * zv.cells.size)) = (reps m zv.cells.toList).toArray := by
    apply Array.ext'
    rw [made_toList]
  rw [this]
theorem toDs_of : ∀ (ds : List D), toDs (ofDs ds) = some ds
  | [] => rfl
  | d :: ds => by
    have := toDs_of ds
    simp only [ofDs, List.map_cons, toDs, toD]
    unfold ofDs at this
    rw [this]
theorem mkR_mem (hi : Inv Pr κ st) {t e : TypeId} {z : List D} {bytes n m : Nat} (hu : P.underlying t = some (.slice e)) (hz : zeroIs P e z = true) (hby : bytesIs P e bytes = true) (hnm : n ≤ m) {x y : V} (hx : room bytes x = some n) (hy : room bytes y = some m) {vx vy : Value} (rx : Rep κ x vx) (ry : Rep κ y vy) :
    Mem P Pr κ (st.push (.row (ofDs (reps m z)))) (.rsl z.length st.heap.length 0 n m) (Instr.makeSlice t vx vy) := by
  obtain ⟨k, rfl, b1, b2⟩ := room_spec hx rx
  obtain ⟨k', rfl, b3, b4⟩ := room_spec hy ry
  obtain ⟨zl, ha, hr⟩ := run_make' (κ := κ) (w := κ.w) hu hz hby hnm b3 b4 k k'
  exact slRef_mem hi hnm (by simpa using ofDs_rep (reps_cells ha m)) hr
theorem mkD_mem (hi : Inv Pr κ st) {t e : TypeId} {z : List D} {bytes n m : Nat} (hu : P.underlying t = some (.slice e)) (hz : zeroIs P e z = true) (hby : bytesIs P e bytes = true) (hnm : n ≤ m) {x y : V} (hx : room bytes x = some n) (hy : room bytes y = some m) {vx vy : Value} (rx : Rep κ x vx) (ry : Rep κ y vy) :
    Mem P Pr κ st (.d (.sl n true (reps n z))) (Instr.makeSlice t vx vy) := by
  obtain ⟨k, rfl, b1, b2⟩ := room_spec hx rx
  obtain ⟨k', rfl, b3, b4⟩ := room_spec hy ry
  obtain ⟨zl, ha, hr⟩ := run_make' (κ := κ) (w := κ.w) hu hz hby hnm b3 b4 k k'
  refine slNew_mem hi hnm (toDs_of _) (k := n * zl.length) ?_ hr
  have : (reps m zl).take (n * zl.length) = reps n zl := by
    apply List.ext_getElem?
    intro j
    rw [List.getElem?_take]
    split
    · rename_i hj
      have : n * zl.length ≤ m * zl.length := Nat.mul_le_mul_right _ hnm
      rw [reps_get (by omega), reps_get hj]
    · rw [List.getElem?_eq_none (by rw [reps_len]; omega)]
  simp only [this]
  exact ofDs_rep (reps_cells ha n)
theorem mkO_mem (hi : Inv Pr κ st) {t e : TypeId} {z : List D} {bytes n m : Nat} (hu : P.underlying t = some (.slice e)) (hz : zeroIs P e z = true) (hby : bytesIs P e bytes = true) (hnm : n ≤ m) {x y : V} (hx : room bytes x = some n) (hy : room bytes y = some m) {vx vy : Value} (rx : Rep κ x vx) (ry : Rep κ y vy) :
    Mem P Pr κ { st with tips := st.tips ++ [n] } (.own z.length n true (reps n z) st.tips.length) (Instr.makeSlice t vx vy) := by
  obtain ⟨k, rfl, b1, b2⟩ := room_spec hx rx
  obtain ⟨k', rfl, b3, b4⟩ := room_spec hy ry
  obtain ⟨zl, ha, hr⟩ := run_make' (κ := κ) (w := κ.w) hu hz hby hnm b3 b4 k k'
  have hzl := ha.length
  -- first a token, then the row
  let w' := κ.w.alloc (.cells (reps m zl).toArray e)
  let κ' : K := { κ with w := w', tk := κ.tk ++ [⟨.slice (some ⟨κ.w.heap.size, 0, none⟩) n m, e, z.length, n⟩], wr := fun b o => κ.wr b o ∨ (b = κ.w.heap.size ∧ n * z.length ≤ o) }
  have hold : ∀ b, b < κ.w.heap.size → w'.heap[b]? = κ.w.heap[b]? := fun b h => heap_alloc_old κ.w _ b h
  have hle : κ.le κ' := by
    refine ⟨rfl, rfl, fun b o x hx => ?_, fun _ _ h => h, fun t tok h => ⟨tok, ?_, rfl, Nat.le_refl _, fun _ => rfl⟩, fun _ _ _ h => .inl h⟩
    · have hlt := lt_of_cell hx.1
      exact ⟨(cell_block (hold b hlt)).trans hx.1, fun hw => hw.elim hx.2 (fun h => by omega)⟩
    · show (κ.tk ++ [_])[t]? = _
      rw [List.getElem?_append_left (List.getElem?_eq_some_iff.1 h).1]
      exact h
  have hown : w'.ownsRow κ.w0.heap.size e z.length (.slice (some ⟨κ.w.heap.size, 0, none⟩) n m) n (reps n zl) := by
    refine ⟨by rw [reps_len, hzl], .inr ⟨κ.w.heap.size, m, (reps m zl).toArray, rfl, hi.below.size, heap_alloc_new κ.w _, hnm, by simp only [maxLen]; omega, by simp [reps_len, hzl], ?_⟩⟩
    apply List.ext_getElem?
    intro j
    rw [List.getElem?_take]
    split
    · rename_i hj
      have : n * z.length ≤ m * z.length := Nat.mul_le_mul_right _ hnm
      rw [hzl] at hj this
      show (reps m zl)[j]? = _
      rw [reps_get (by omega), reps_get hj]
    · rw [List.getElem?_eq_none (by rw [reps_len, ← hzl]; omega)]
  have hget : ∀ {j : Nat} {tok : Tok}, κ'.tk[j]? = some tok → (j < κ.tk.length ∧ κ.tk[j]? = some tok) ∨ (j = κ.tk.length ∧ tok = ⟨.slice (some ⟨κ.w.heap.size, 0, none⟩) n m, e, z.length, n⟩) := by
    intro j tok h
    have h : (κ.tk ++ [_])[j]? = some tok := h
    rw [List.getElem?_append] at h
    split at h
    · exact .inl ⟨by assumption, h⟩
    · rename_i hge
      have hlt := (List.getElem?_eq_some_iff.1 h).1
      simp at hlt
      have he : j = κ.tk.length := by omega
      subst he
      simp at h
      exact .inr ⟨rfl, h.symm⟩
  refine ⟨κ', _, hr, hle, ⟨hi.below.alloc hi.below.size _, hi.len, ?_, hi.nd, fun i b h => ⟨(hi.ρb i b h).1, by have := (hi.ρb i b h).2; show b < w'.heap.size; simp only [w', World.size_alloc]; omega⟩, ?_, ?_, ?_, ?_, ?_, fun nm c h => RepL.mono hle.imm _ _ _ (hi.globs nm c h)⟩, ?_, ⟨.slice (some ⟨κ.w.heap.size, 0, none⟩) n m, e, z.length, n⟩, ?_, rfl, Nat.le_refl _, fun _ => rfl⟩
  · show st.tips ++ [n] = (κ.tk ++ [_]).map _
    rw [hi.tips]
    simp
  · intro id cs h
    obtain ⟨b, arr, e', h1, h2, h3, h4⟩ := hi.rows id cs h
    exact ⟨b, arr, e', h1, (hold b (hi.ρb _ _ h1).2).trans h2, h3.mono fun _ _ => RepC.mono hle, fun o => .inl (h4 o)⟩
  · intro id es h
    obtain ⟨b, arr, c, h1, h2, h3⟩ := hi.maps id es h
    exact ⟨b, arr, c, h1, (hold b (hi.ρb _ _ h1).2).trans h2, h3.mono fun _ _ => RepE.mono hle⟩
  · intro j tok h
    rcases hget h with ⟨_, h⟩ | ⟨_, rfl⟩
    · obtain ⟨⟨xs, h1⟩, h2⟩ := hi.toks j tok h
      exact ⟨⟨xs, h1.alloc _⟩, fun g hg => ⟨(h2 g hg).1, fun o ho => .inl ((h2 g hg).2 o ho)⟩⟩
    · refine ⟨⟨_, hown⟩, fun g hg => ?_⟩
      have hgs : g = κ.w.heap.size := by simpa [Value.ownBlock] using hg.symm
      subst hgs
      exact ⟨fun i hr => by have := (hi.ρb i _ hr).2; omega, fun o ho => .inr ⟨rfl, ho⟩⟩
  · intro j j' t1 t2 g h1 h2 hg1 hg2
    rcases hget h1 with ⟨_, q1⟩ | ⟨q1, q1'⟩ <;> rcases hget h2 with ⟨_, q2⟩ | ⟨q2, q2'⟩
    · exact hi.tdis j j' t1 t2 g q1 q2 hg1 hg2
    · obtain ⟨⟨xs, r1⟩, _⟩ := hi.toks j t1 q1
      have := (own_lt' r1 hg1).2
      rw [q2'] at hg2
      have hgs : g = κ.w.heap.size := by simpa [Value.ownBlock] using hg2.symm
      omega
    · obtain ⟨⟨xs, r1⟩, _⟩ := hi.toks j' t2 q2
      have := (own_lt' r1 hg2).2
      rw [q1'] at hg1
      have hgs : g = κ.w.heap.size := by simpa [Value.ownBlock] using hg1.symm
      omega
    · omega
  · intro b o h
    show b < w'.heap.size
    simp only [w', World.size_alloc]
    rcases h with h | h
    · have := hi.muts b o h; omega
    · omega
  · simp only [RepD]
    refine ⟨_, m, rfl, hnm, rfl, by simp, .inr ⟨κ.w.heap.size, 0, rfl, RepL.of fun j c hj => ?_⟩⟩
    have hal := (reps_cells ha n)
    obtain ⟨y, hy, hyr⟩ := hal.get hj
    have hjl := (List.getElem?_eq_some_iff.1 hj).1
    rw [reps_len] at hjl
    refine ⟨y, ⟨?_, ?_⟩, RepD.mono hle.imm _ _ hyr⟩
    · have := hown.cells (g := κ.w.heap.size) rfl j y hy
      rw [Addr.add_lit] at this
      exact this
    · rintro (hw | hw)
      · have := hi.muts _ _ hw; omega
      · omega
  · show (κ.tk ++ [_])[_]? = _
    rw [hi.tips]
    simp
theorem ownNew_mem (hi : Inv Pr κ st) {e : TypeId} {n size : Nat} {ds : List D} {arr : Array Value} (ha : All2 (RepD κ.L κ.imm) ds arr.toList) (hsz : arr.size = n * size) (hn63 : n ≤ maxLen) {s : Sem Value}
    (hr : s.run P κ.w = .ok (.slice (some ⟨κ.w.heap.size, 0, none⟩) n n) (κ.w.alloc (.cells arr e))) : Mem P Pr κ { st with tips := st.tips ++ [n] } (.own size n true ds st.tips.length) s := by
  -- first a token, then the row
  let w' := κ.w.alloc (.cells arr e)
  let κ' : K := { κ with w := w', tk := κ.tk ++ [⟨.slice (some ⟨κ.w.heap.size, 0, none⟩) n n, e, size, n⟩], wr := fun b o => κ.wr b o ∨ (b = κ.w.heap.size ∧ n * size ≤ o) }
  have hold : ∀ b, b < κ.w.heap.size → w'.heap[b]? = κ.w.heap[b]? := fun b h => heap_alloc_old κ.w _ b h
  have hle : κ.le κ' := by
    refine ⟨rfl, rfl, fun b o x hx => ?_, fun _ _ h => h, fun t tok h => ⟨tok, ?_, rfl, Nat.le_refl _, fun _ => rfl⟩, fun _ _ _ h => .inl h⟩
    · have hlt := lt_of_cell hx.1
      exact ⟨(cell_block (hold b hlt)).trans hx.1, fun hw => hw.elim hx.2 (fun h => by omega)⟩
    · show (κ.tk ++ [_])[t]? = _
      rw [List.getElem?_append_left (List.getElem?_eq_some_iff.1 h).1]
      exact h
  have hown : w'.ownsRow κ.w0.heap.size e size (.slice (some ⟨κ.w.heap.size, 0, none⟩) n n) n arr.toList :=
    ⟨by simpa using hsz, .inr ⟨κ.w.heap.size, n, arr, rfl, hi.below.size, heap_alloc_new κ.w _, Nat.le_refl _, hn63, hsz, by rw [List.take_of_length_le (by simp; omega)]⟩⟩
  have hget : ∀ {j : Nat} {tok : Tok}, κ'.tk[j]? = some tok → (j < κ.tk.length ∧ κ.tk[j]? = some tok) ∨ (j = κ.tk.length ∧ tok = ⟨.slice (some ⟨κ.w.heap.size, 0, none⟩) n n, e, size, n⟩) := by
    intro j tok h
    have h : (κ.tk ++ [_])[j]? = some tok := h
    rw [List.getElem?_append] at h
    split at h
    · exact .inl ⟨by assumption, h⟩
    · rename_i hge
      have hlt := (List.getElem?_eq_some_iff.1 h).1
      simp at hlt
      have he : j = κ.tk.length := by omega
      subst he
      simp at h
      exact .inr ⟨rfl, h.symm⟩
  refine ⟨κ', _, hr, hle, ⟨hi.below.alloc hi.below.size _, hi.len, ?_, hi.nd, fun i b h => ⟨(hi.ρb i b h).1, by have := (hi.ρb i b h).2; show b < w'.heap.size; simp only [w', World.size_alloc]; omega⟩, ?_, ?_, ?_, ?_, ?_, fun nm c h => RepL.mono hle.imm _ _ _ (hi.globs nm c h)⟩, ?_, ⟨.slice (some ⟨κ.w.heap.size, 0, none⟩) n n, e, size, n⟩, ?_, rfl, Nat.le_refl _, fun _ => rfl⟩
  · show st.tips ++ [n] = (κ.tk ++ [_]).map _
    rw [hi.tips]
    simp
  · intro id cs h
    obtain ⟨b, arr, e', h1, h2, h3, h4⟩ := hi.rows id cs h
    exact ⟨b, arr, e', h1, (hold b (hi.ρb _ _ h1).2).trans h2, h3.mono fun _ _ => RepC.mono hle, fun o => .inl (h4 o)⟩
  · intro id es h
    obtain ⟨b, arr, c, h1, h2, h3⟩ := hi.maps id es h
    exact ⟨b, arr, c, h1, (hold b (hi.ρb _ _ h1).2).trans h2, h3.mono fun _ _ => RepE.mono hle⟩
  · intro j tok h
    rcases hget h with ⟨_, h⟩ | ⟨_, rfl⟩
    · obtain ⟨⟨xs, h1⟩, h2⟩ := hi.toks j tok h
      exact ⟨⟨xs, h1.alloc _⟩, fun g hg => ⟨(h2 g hg).1, fun o ho => .inl ((h2 g hg).2 o ho)⟩⟩
    · refine ⟨⟨_, hown⟩, fun g hg => ?_⟩
      have hgs : g = κ.w.heap.size := by simpa [Value.ownBlock] using hg.symm
      subst hgs
      exact ⟨fun i hr => by have := (hi.ρb i _ hr).2; omega, fun o ho => .inr ⟨rfl, ho⟩⟩
  · intro j j' t1 t2 g h1 h2 hg1 hg2
    rcases hget h1 with ⟨_, q1⟩ | ⟨q1, q1'⟩ <;> rcases hget h2 with ⟨_, q2⟩ | ⟨q2, q2'⟩
    · exact hi.tdis j j' t1 t2 g q1 q2 hg1 hg2
    · obtain ⟨⟨xs, r1⟩, _⟩ := hi.toks j t1 q1
      have := (own_lt' r1 hg1).2
      rw [q2'] at hg2
      have hgs : g = κ.w.heap.size := by simpa [Value.ownBlock] using hg2.symm
      omega
    · obtain ⟨⟨xs, r1⟩, _⟩ := hi.toks j' t2 q2
      have := (own_lt' r1 hg2).2
      rw [q1'] at hg1
      have hgs : g = κ.w.heap.size := by simpa [Value.ownBlock] using hg1.symm
      omega
    · omega
  · intro b o h
    show b < w'.heap.size
    simp only [w', World.size_alloc]
    rcases h with h | h
    · have := hi.muts b o h; omega
    · omega
  · simp only [RepD]
    refine ⟨_, n, rfl, Nat.le_refl _, rfl, by simp, .inr ⟨κ.w.heap.size, 0, rfl, RepL.of fun j c hj => ?_⟩⟩
    obtain ⟨y, hy, hyr⟩ := ha.get hj
    have hjl := (List.getElem?_eq_some_iff.1 hy).1
    simp only [Array.length_toList] at hjl
    refine ⟨y, ⟨?_, ?_⟩, RepD.mono hle.imm _ _ hyr⟩
    · have := hown.cells (g := κ.w.heap.size) rfl j y hy
      rw [Addr.add_lit] at this
      exact this
    · rintro (hw | hw)
      · have := hi.muts _ _ hw; omega
      · omega
  · show (κ.tk ++ [_])[_]? = _
    rw [hi.tips]
    simp
theorem s2b_mem (hi : Inv Pr κ st) {src dst e : TypeId} (hs : strIs P src = true) (hd : P.underlying dst = some (.slice e)) (he : intIs P e .u8 = true) {l : List UInt8} {v : Value} (hx : Rep κ (.d (.s l)) v) :
    Mem P Pr κ st (.d (.sl l.length true (byteCells l))) (convert src dst v) := by
  rw [rep_s] at hx
  subst hx
  have hg : κ.w.grownBy (Lib.bytesWorld κ.w e ⟨l.toArray⟩) none := ⟨rfl, rfl, rfl, by rw [Lib.bytesWorld_size]; omega, fun k hk _ => Lib.bytesWorld_at_old κ.w e _ k hk⟩
  obtain ⟨h1, h2⟩ := hi.grow hg
  refine ⟨_, _, Lib.run_convert_string_bytes κ.w src dst e _ (strIs_spec hs) hd (intIs_spec he), h1, h2, ?_⟩
  show RepD _ _ _ _
  simp only [RepD]
  refine ⟨_, _, rfl, grownCap_ge _ _ _ _, rfl, by simp, .inr ⟨κ.w.heap.size, 0, rfl, ?_⟩⟩
  have ha := (byteCells_rep (κ := κ) l).mono fun d v hr => RepD.mono h1.imm d v hr
  refine imm_new hi (Lib.bytesWorld_at_new κ.w e _) ha (fun j x hj => ?_)
  have hjl := (List.getElem?_eq_some_iff.1 hj).1
  simp only [List.length_map] at hjl
  unfold Lib.bytesCells
  rw [Array.getElem?_append_left (by simpa using hjl)]
  rw [List.getElem?_map] at hj
  simpa using hj
theorem bytesOf_spec : ∀ {ds : List D} {l : List UInt8}, bytesOf ds = some l → ∃ ns : List Int, ds = ns.map (D.i .u8) ∧ l = ns.map fun n => UInt8.ofNat n.toNat
  | [], l, h => by
    simp only [bytesOf, Option.some.injEq] at h
    subst h
    exact ⟨[], rfl, rfl⟩
  | d :: ds, l, h => by
    unfold bytesOf at h
    split at h
    · rename_i heq; cases heq
    · rename_i n r heq
      simp only [List.cons.injEq] at heq
      obtain ⟨rfl, rfl⟩ := heq
      split at h
      · rename_i l' hl'
        simp only [Option.some.injEq] at h
        subst h
        obtain ⟨ns, rfl, rfl⟩ := bytesOf_spec hl'
        exact ⟨n :: ns, rfl, rfl⟩
      · cases h
    · cases h
theorem b2s_mem (hi : Inv Pr κ st) {src dst e : TypeId} (hs : P.underlying src = some (.slice e)) (he : intIs P e .u8 = true) (hd : strIs P dst = true) {x z : V} (h : b2sV st x = some z)
    {v : Value} (hx : Rep κ x v) : Mem P Pr κ st z (convert src dst v) := by
  obtain ⟨n, ds, l, hvw, hl, hb, rfl, hnl⟩ : ∃ n ds l, vw 1 st x = some (n, ds) ∧ ds.length = n ∧ bytesOf ds = some l ∧ z = .d (.s l) ∧ ∀ l, x ≠ .d (.s l) := by
    unfold b2sV at h
    split at h
    · cases h
    · rename_i hns
      split at h
      · rename_i n ds hvw
        split at h
        · rename_i hl
          simp only [Option.map_eq_some_iff] at h
          obtain ⟨l, hb, rfl⟩ := h
          exact ⟨n, ds, l, hvw, hl, hb, rfl, hns⟩
        · cases h
      · cases h
  refine Mem.pure hi ?_
  obtain ⟨ns, rfl, rfl⟩ := bytesOf_spec hb
  have hu8 := intIs_spec he
  have hst := strIs_spec hd
  have hnl' : ns.length = n := by simpa using hl
  have main : ∀ (b o cap : Nat), (∀ i, i < n → κ.w.cell? ⟨b, o + i, none⟩ = some (.int .u8 (ns.getD i 0))) → ∃ u, (convert src dst (.slice (some ⟨b, o, none⟩) n cap)).run P κ.w = .ok u κ.w ∧ Rep κ (.d (.s (ns.map fun n => UInt8.ofNat n.toNat))) u := fun b o cap hc =>
    ⟨_, run_convert_bytes_arg κ.w src e hs hu8 b o n cap ns hnl' hc dst hst, rep_s.2 rfl⟩
  have zero : ∀ (A : Option Addr) (cap : Nat), n = 0 → ∃ u, (convert src dst (.slice A n cap)).run P κ.w = .ok u κ.w ∧ Rep κ (.d (.s (ns.map fun n => UInt8.ofNat n.toNat))) u := fun A cap h0 => by
    subst h0
    have : ns = [] := List.eq_nil_of_length_eq_zero hnl'
    subst this
    cases A with
    | none => exact ⟨_, run_convert_bytes_nil κ.w src e hs hu8 0 cap dst hst, rep_s.2 rfl⟩
    | some a =>
      refine ⟨.string ByteArray.empty, ?_, rep_s.2 rfl⟩
      have hl0 : (loadCells a 0).run P κ.w = .ok #[] κ.w := rfl
      simp [convert, run_underlying hs, run_underlying hst, run_underlying hu8, Conv.bytesToString, hl0]
  have hD : ∀ nz, RepD κ.L κ.imm (.sl n nz (ns.map (D.i .u8))) v → ∃ u, (convert src dst v).run P κ.w = .ok u κ.w ∧ Rep κ (.d (.s (ns.map fun n => UInt8.ofNat n.toNat))) u := by
    intro nz hd
    simp only [RepD] at hd
    obtain ⟨A, cap, rfl, d1, d2, d3, d4⟩ := hd
    rcases d4 with d4 | ⟨b, o, rfl, hl4⟩
    · have : n = 0 := by
        have := congrArg List.length d4
        simp at this
        simp [← hnl', this]
      exact zero A cap this
    · refine main b o cap fun i hi => ?_
      have hin : i < ns.length := by omega
      obtain ⟨y, hy, hyr⟩ := hl4.get (j := i) (c := .i .u8 ns[i]) (by simp [hin])
      rw [repD_i] at hyr
      rw [hy.1, hyr]
      simp [hin]
  unfold vw at hvw
  split at hvw
  · simp only [Option.some.injEq, Prod.mk.injEq] at hvw
    obtain ⟨rfl, rfl⟩ := hvw
    exact hD _ hx
  · simp only [Option.some.injEq, Prod.mk.injEq] at hvw
    obtain ⟨rfl, rfl⟩ := hvw
    exact hD _ hx.1
  · rename_i sz id off k cap
    split at hvw
    case isFalse => cases hvw
    rename_i hsz
    subst hsz
    simp only [Option.map_eq_some_iff, Prod.mk.injEq] at hvw
    obtain ⟨ds', hds, rfl, rfl⟩ := hvw
    unfold cellsAt at hds
    split at hds
    case h_2 => cases hds
    rename_i cs hrow
    split at hds
    case isFalse => cases hds
    rename_i hfit
    obtain ⟨b, o, h1, rfl, hcap, ho⟩ := hx
    obtain ⟨b', arr, e', h2, h3, h4, h5⟩ := hi.rows id cs hrow
    obtain rfl : b = b' := by rw [h1] at h2; exact Option.some.inj h2
    have ha := toDs_rep hds ((h4.drop off).take (k * 1))
    rcases ho with rfl | rfl
    · exact zero _ _ (by omega)
    · refine main b o cap fun i hi' => ?_
      have hin : i < ns.length := by omega
      obtain ⟨y, hy, hyr⟩ := ha.get (i := i) (x := .i .u8 ns[i]) (by simp [hin])
      rw [repD_i] at hyr
      have hy' := (take_get hy).2
      rw [List.getElem?_drop] at hy'
      rw [cell_of_row κ.w b (o + i) arr e' (0, 0) h3]
      rw [hyr] at hy'
      simp only [Array.getElem?_toList] at hy'
      rw [hy']
      simp [hin]
  · exact absurd rfl (hnl _)
  · cases hvw
end
end Go.Sh
