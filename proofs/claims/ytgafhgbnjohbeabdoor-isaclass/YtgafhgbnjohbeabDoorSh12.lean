/- Slices that grow; what make and the conversions give. -/
import Derived.Test.YtgafhgbnjohbeabDoorSh11
set_option linter.unusedVariables false
set_option linter.unusedSimpArgs false
namespace Go.Sh
open Go.RowKit

/-- append onto an owned row, whatever the source. -/
theorem run_append_src {P : Program} (w : World) (base : Nat) (t u ty e : TypeId) (i : TypeInfo) (z : Value) (size bytes : Nat) (ht : P.underlying t = some (.slice e)) (hxt : ∃ d, P.underlying u = some d ∧ ∀ k, d ≠ .int k)
    (hi : P.info? e = some i) (hz : i.zero = some z) (hsize : i.size = size) (hby : i.bytes = bytes) (hzs : z.cells.size = size)
    (v : Value) (n : Nat) (xs : List Value) (e0 : TypeId) (hown : w.ownsRow base e0 size v n xs)
    (x : Value) (m : Nat) (news : List Value) (hl : news.length = m * size)
    (hsrc : ∀ w' : World, w'.heap = w.heap → (Builtin.lenOf x).run P w' = .ok m w' ∧ (Builtin.firstCells size m x).run P w' = .ok news.toArray w') (h1 : ∀ u ∈ news, u.oneCell' = true)
    (h63 : n + m ≤ maxLen) (hbytes : (n + m) * bytes ≤ 140737488355328) (hbase : base ≤ w.heap.size) :
    ∃ v' w' e', (Builtin.append_ #[t, u] ty #[v, x]).run P w = .ok v' w' ∧ w'.ownsRow base e' size v' (n + m) (xs ++ news) ∧ w.grownBy w' v.ownBlock ∧ (v'.ownBlock = v.ownBlock ∨ (v'.ownBlock = some w.heap.size ∧ w.grownBy w' none)) ∧
      (v' = .slice none 0 0 ↔ v = .slice none 0 0 ∧ m = 0) ∧ (m = 0 → v' = v) := by
  subst hsize
  subst hby
  obtain ⟨d, hd, hdk⟩ := hxt
  have hsmall : n + m ≤ 9223372036854775807 := by simp only [maxLen] at h63; omega
  have hlen : (xs ++ news).length = (n + m) * i.size := by rw [List.length_append, hown.1, hl, Nat.add_mul]
  have hxx := hsrc w rfl
  have hdf : (match d with | .int _ => true | _ => false) = false := by
    cases d <;> first | rfl | exact absurd rfl (hdk _)
  have grown : ∀ (old : Nat), old < n + m →
      (w.drew.alloc (.cells (xs.toArray ++ news.toArray ++ Builtin.zeroCells z.cells (grownCap w (n + m) old e - (n + m))) e)).ownsRow base e i.size
        (.slice (some ⟨w.heap.size, 0, none⟩) (n + m) (grownCap w (n + m) old e)) (n + m) (xs ++ news) := by
    intro old ho
    have hge := grownCap_ge w (n + m) old e
    have hcm : grownCap w (n + m) old e ≤ maxLen := grownCap_le_maxLen w (n + m) old e h63
    refine ⟨hlen, .inr ⟨w.heap.size, _, _, rfl, hbase, heap_alloc_new w.drew _, hge, hcm, ?_, ?_⟩⟩
    · simp only [Array.size_append, List.size_toArray, size_zeroCells, hzs, hown.1, hl, ← Nat.add_mul]
      congr 1
      omega
    · simp only [Array.toList_append, List.append_assoc]
      rw [← List.append_assoc, ← hlen]
      exact List.take_left
  have hgb : ∀ (old : Nat) row, w.grownBy (w.drew.alloc (.cells (xs.toArray ++ news.toArray ++ Builtin.zeroCells z.cells (grownCap w (n + m) old e - (n + m))) e)) row := fun old row =>
    ⟨rfl, rfl, rfl, by simp, fun k hk _ => heap_alloc_old w.drew _ k hk⟩
  rcases hown.2 with ⟨rfl, rfl⟩ | ⟨g, cap, cur, rfl, hbg, hg, hnc, hcm, hcs, htake⟩
  · have hx : xs = [] := List.eq_nil_of_length_eq_zero (by simpa using hown.1)
    subst hx
    by_cases hm : m = 0
    · subst hm
      have hn : news = [] := List.eq_nil_of_length_eq_zero (by simpa using hl)
      subst hn
      refine ⟨.slice none 0 0, w, e, ?_, World.ownsRow_nil w base e i.size, ⟨rfl, rfl, rfl, Nat.le_refl _, fun _ _ _ => rfl⟩, .inl rfl, by simp, fun _ => rfl⟩
      simp [Builtin.append_, run_underlying ht, run_underlying hd, hdf, sizeOf, typeInfo, hi, hxx.1, hxx.2]
    · refine ⟨_, _, e, ?_, grown 0 (by omega), hgb 0 _, .inr ⟨rfl, hgb 0 _⟩, by simp [hm], fun h => absurd h hm⟩
      have hn : m ≠ 0 := hm
      have h63' : ¬ (9223372036854775807 < (m : Int)) := by omega
      have hnx : Builtin.nextslicecap m 0 = m := nextslicecap_zero (by omega)
      have h48' : ¬ (281474976710656 < Builtin.nextslicecap m 0 * i.bytes) := by rw [hnx]; simp only [Nat.zero_add] at hbytes; omega
      have hsd := hsrc w.drew rfl
      simp [Builtin.append_, run_underlying ht, run_underlying hd, hdf, sizeOf, typeInfo, zeroValue, hi, hz, hxx.1, hn, h63', h48', Question.forced, run_firstCells_none, hsd.2, newRow, grownCap]
  · by_cases hroom : n + m ≤ cap
    · have hfit : n * i.size + news.length ≤ cur.size := by rw [hl, hcs, ← Nat.add_mul]; exact Nat.mul_le_mul_right _ hroom
      have hst := run_storeCells_at P g (n * i.size) e0 news 0 cur w hg (by simpa using hfit) h1
      simp only [Nat.add_zero] at hst
      refine ⟨.slice (some ⟨g, 0, none⟩) (n + m) cap, w.setRow g (cur.toList.take (n * i.size) ++ news ++ cur.toList.drop (n * i.size + news.length)).toArray, e0, ?_, ⟨hlen, .inr ⟨g, cap, _, rfl, hbg, setRow_heap w g cur _ e0 _ hg, hroom, hcm, ?_, ?_⟩⟩, ⟨rfl, rfl, rfl, by simp, fun k _ hk => setRow_other w g k _ (fun e => hk (by simp [Value.ownBlock, e]))⟩, .inl rfl, by simp, fun h => by subst h; rfl⟩
      · simp [Builtin.append_, run_underlying ht, run_underlying hd, hdf, sizeOf, typeInfo, hi, hxx.1, hroom, hxx.2, Addr.add_lit, hst]
      · simp only [List.size_toArray, List.length_append, List.length_take, List.length_drop, Array.length_toList]
        omega
      · rw [htake, ← hlen]
        exact List.take_left
    · have holds : ∀ j u, xs[j]? = some u → w.cell? ((⟨g, 0, none⟩ : Addr).add j) = some u := hown.cells (g := g) rfl
      refine ⟨_, _, e, ?_, grown cap (by omega), hgb cap _, .inr ⟨rfl, hgb cap _⟩, by simp, fun h => by omega⟩
      have hn : ¬ (n + m ≤ cap) := hroom
      have h63' : ¬ (9223372036854775807 < ((n : Int) + (m : Int))) := by omega
      have hfit := growslice_fits (need := n + m) (old := cap) (bytes := i.bytes) (by omega) hbytes
      have h48' : ¬ (281474976710656 < Builtin.nextslicecap (n + m) cap * i.bytes) := by omega
      have hsd := hsrc w.drew rfl
      have hfo := run_firstCells_some (P := P) w.drew i.size n ⟨g, 0, none⟩ n cap xs hown.1 (by simpa using holds)
      simp [Builtin.append_, run_underlying ht, run_underlying hd, hdf, sizeOf, typeInfo, zeroValue, hi, hz, hxx.1, hn, h63', h48', Question.forced, hfo, hsd.2, newRow, grownCap]
      congr 2
      apply Array.ext'
      simp [List.append_assoc]
section
variable {P : Program} {Pr : Prog} {κ : K} {st : St}

/-- A token more: a nil slice that will grow. -/
def K.tip (κ : K) (size : Nat) : K := { κ with tk := κ.tk ++ [⟨.slice none 0 0, 0, size, 0⟩] }
theorem Inv.tip (hi : Inv Pr κ st) (size : Nat) : κ.le (κ.tip size) ∧ Inv Pr (κ.tip size) { st with tips := st.tips ++ [0] } := by
  have hle : κ.le (κ.tip size) := ⟨rfl, rfl, fun _ _ _ h => h, fun _ _ h => h, fun t tok h => ⟨tok, by show (κ.tk ++ [_])[t]? = _; rw [List.getElem?_append_left (List.getElem?_eq_some_iff.1 h).1]; exact h, rfl, Nat.le_refl _, fun _ => rfl⟩, fun _ _ _ h => h⟩
  have hget : ∀ {t : Nat} {tok : Tok}, (κ.tip size).tk[t]? = some tok → κ.tk[t]? = some tok ∨ tok = ⟨.slice none 0 0, 0, size, 0⟩ := by
    intro t tok h
    have h : (κ.tk ++ [_])[t]? = some tok := h
    rw [List.getElem?_append] at h
    split at h
    · exact .inl h
    · right
      have := List.mem_of_getElem? h
      simpa using this
  refine ⟨hle, ⟨hi.below, hi.len, by show st.tips ++ [0] = (κ.tk ++ [_]).map _; rw [hi.tips]; simp, hi.nd, hi.ρb, ?_, ?_, ?_, ?_, hi.muts, hi.globs⟩⟩
  · intro id cs h
    obtain ⟨b, arr, e, h1, h2, h3, h4⟩ := hi.rows id cs h
    exact ⟨b, arr, e, h1, h2, h3.mono fun _ _ => RepC.mono hle, h4⟩
  · intro id es h
    obtain ⟨b, arr, c, h1, h2, h3⟩ := hi.maps id es h
    exact ⟨b, arr, c, h1, h2, h3.mono fun _ _ => RepE.mono hle⟩
  · intro t tok h
    rcases hget h with h | rfl
    · exact hi.toks t tok h
    · exact ⟨⟨[], World.ownsRow_nil _ _ _ _⟩, fun g hg => by simp [Value.ownBlock] at hg⟩
  · intro t t' tok tok' g h h' hg hg'
    rcases hget h with h | rfl
    · rcases hget h' with h' | rfl
      · exact hi.tdis t t' tok tok' g h h' hg hg'
      · simp [Value.ownBlock] at hg'
    · simp [Value.ownBlock] at hg
theorem tip_rep (hi : Inv Pr κ st) (size : Nat) : Rep (κ.tip size) (.own size 0 false [] st.tips.length) (.slice none 0 0) := by
  refine ⟨?_, ⟨.slice none 0 0, 0, size, 0⟩, ?_, rfl, Nat.le_refl _, fun _ => rfl⟩
  · simp only [RepD]
    exact ⟨none, 0, rfl, Nat.le_refl _, rfl, fun _ => rfl, .inl trivial⟩
  · show (κ.tk ++ [_])[_]? = _
    rw [hi.tips]
    simp

/-- The tie behind an append onto token t. -/
def K.app (κ : K) (w' : World) (t : Nat) (v' : Value) (e' : TypeId) (size n' : Nat) : K :=
  { κ with w := w', tk := κ.tk.set t ⟨v', e', size, n'⟩, wr := fun b o => (κ.wr b o ∧ (v'.ownBlock = some b → n' * size ≤ o)) ∨ (b = κ.w.heap.size ∧ v'.ownBlock = some b ∧ n' * size ≤ o) }
theorem app_inv (hi : Inv Pr κ st) {t : Nat} {tok : Tok} (htok : κ.tk[t]? = some tok) {w' : World} {v' : Value} {e' : TypeId} {m : Nat} {xs news : List Value} (hown : κ.w.ownsRow κ.w0.heap.size tok.e tok.size tok.v tok.n xs)
    (hown' : w'.ownsRow κ.w0.heap.size e' tok.size v' (tok.n + m) (xs ++ news)) (hg : κ.w.grownBy w' tok.v.ownBlock) (hb : v'.ownBlock = tok.v.ownBlock ∨ (v'.ownBlock = some κ.w.heap.size ∧ κ.w.grownBy w' none)) (hm : m = 0 → v' = tok.v) :
    κ.le (κ.app w' t v' e' tok.size (tok.n + m)) ∧ Inv Pr (κ.app w' t v' e' tok.size (tok.n + m)) { st with tips := st.tips.set t (tok.n + m) } := by
  obtain ⟨_, htk⟩ := hi.toks t tok htok
  have htl := (List.getElem?_eq_some_iff.1 htok).1
  have hxs := hown.1
  have hcell : ∀ b o x, κ.imm b o x → w'.cell? ⟨b, o, none⟩ = some x := by
    intro b o x hx
    have hlt := lt_of_cell hx.1
    rcases hb with hb | ⟨hb, hgn⟩
    · by_cases hbg : tok.v.ownBlock = some b
      · have hno : ¬ (tok.n * tok.size ≤ o) := fun h => hx.2 ((htk b hbg).2 o h)
        have hol : o < xs.length := by omega
        have h1 := hown.cells hbg o xs[o] (List.getElem?_eq_getElem hol)
        rw [Addr.add_lit, Nat.zero_add, hx.1] at h1
        have h2 := hown'.cells (hb.trans hbg) o xs[o] (by rw [List.getElem?_append_left hol]; exact List.getElem?_eq_getElem hol)
        rw [Addr.add_lit, Nat.zero_add] at h2
        rw [h2, ← Option.some.inj h1]
      · exact (cell_block (hg.block b hlt (fun e => hbg e.symm))).trans hx.1
    · exact (cell_block (hgn.block b hlt (by simp))).trans hx.1
  have hget : ∀ {j : Nat} {tk' : Tok}, (κ.tk.set t ⟨v', e', tok.size, tok.n + m⟩)[j]? = some tk' → (j = t ∧ tk' = ⟨v', e', tok.size, tok.n + m⟩) ∨ (j ≠ t ∧ κ.tk[j]? = some tk') := by
    intro j tk' h
    rw [List.getElem?_set] at h
    by_cases he : t = j
    · subst he
      simp only [if_true, htl, Option.some.injEq] at h
      exact .inl ⟨rfl, h.symm⟩
    · rw [if_neg he] at h
      exact .inr ⟨fun e => he e.symm, h⟩
  have hnew : ∀ g, v'.ownBlock = some g → (∀ i : Nat, κ.ρ[i]? ≠ some g) ∧ ∀ j tk', j ≠ t → κ.tk[j]? = some tk' → tk'.v.ownBlock ≠ some g := by
    intro g hgb
    rcases hb with hb | ⟨hb, _⟩
    · refine ⟨(htk g (hb ▸ hgb)).1, fun j tk' hj hk e => hj (hi.tdis j t tk' tok g hk htok e (hb ▸ hgb))⟩
    · have hgs : g = κ.w.heap.size := by rw [hb] at hgb; exact (Option.some.inj hgb).symm
      refine ⟨fun i hr => by have := (hi.ρb i g hr).2; omega, fun j tk' hj hk e => ?_⟩
      obtain ⟨⟨xs', h1⟩, _⟩ := hi.toks j tk' hk
      have := (own_lt' h1 e).2
      omega
  have hle : κ.le (κ.app w' t v' e' tok.size (tok.n + m)) := by
    refine ⟨rfl, rfl, fun b o x hx => ⟨hcell b o x hx, fun hw => ?_⟩, fun _ _ h => h, fun j tk' h => ?_, fun b o hb0 hw => .inl ⟨hw, fun hob => by have := (own_lt' hown' hob).1; omega⟩⟩
    · rcases hw with hw | hw
      · exact hx.2 hw.1
      · have := lt_of_cell hx.1
        omega
    · by_cases he : j = t
      · subst he
        rw [htok] at h
        obtain rfl := Option.some.inj h
        refine ⟨⟨v', e', tok.size, tok.n + m⟩, ?_, rfl, by simp, fun e => hm (by simp at e; omega)⟩
        show (κ.tk.set j _)[j]? = _
        rw [List.getElem?_set, if_pos rfl, if_pos htl]
      · refine ⟨tk', ?_, rfl, Nat.le_refl _, fun _ => rfl⟩
        show (κ.tk.set t _)[j]? = _
        rw [List.getElem?_set, if_neg (fun e => he e.symm)]
        exact h
  refine ⟨hle, ⟨?_, hi.len, ?_, hi.nd, fun i b h => ⟨(hi.ρb i b h).1, Nat.lt_of_lt_of_le (hi.ρb i b h).2 hg.size⟩, ?_, ?_, ?_, ?_, ?_, fun n c h => RepL.mono hle.imm _ _ _ (hi.globs n c h)⟩⟩
  · exact hi.below.grown hg hi.below.size (fun k hk => (own_lt' hown hk).1)
  · show st.tips.set t _ = (κ.tk.set t _).map _
    rw [hi.tips, List.map_set]
  · intro id cs h
    obtain ⟨b, arr, e, h1, h2, h3, h4⟩ := hi.rows id cs h
    have hbl := (hi.ρb _ _ h1).2
    refine ⟨b, arr, e, h1, (hg.block b hbl (fun e => (htk b e.symm).1 id h1)).trans h2, h3.mono fun _ _ => RepC.mono hle, fun o => .inl ⟨h4 o, fun hv => absurd h1 ((hnew b hv).1 id)⟩⟩
  · intro id es h
    obtain ⟨b, arr, c, h1, h2, h3⟩ := hi.maps id es h
    have hbl := (hi.ρb _ _ h1).2
    exact ⟨b, arr, c, h1, (hg.block b hbl (fun e => (htk b e.symm).1 id h1)).trans h2, h3.mono fun _ _ => RepE.mono hle⟩
  · intro j tk' h
    rcases hget h with ⟨rfl, rfl⟩ | ⟨hj, h⟩
    · refine ⟨⟨_, hown'⟩, fun g hgb => ⟨(hnew g hgb).1, fun o ho => ?_⟩⟩
      rcases hb with hb | ⟨hb, _⟩
      · refine .inl ⟨(htk g (hb ▸ hgb)).2 o ?_, fun _ => ho⟩
        have : tok.n * tok.size ≤ (tok.n + m) * tok.size := Nat.mul_le_mul_right _ (by omega)
        exact Nat.le_trans this ho
      · exact .inr ⟨by have hgb' : v'.ownBlock = some g := hgb; rw [hb] at hgb'; exact (Option.some.inj hgb').symm, hgb, ho⟩
    · obtain ⟨⟨xs', h1⟩, h2⟩ := hi.toks j tk' h
      refine ⟨⟨xs', h1.kept hg ?_⟩, fun g hgb => ⟨(h2 g hgb).1, fun o ho => .inl ⟨(h2 g hgb).2 o ho, fun hv => absurd hgb ((hnew g hv).2 j tk' hj h)⟩⟩⟩
      cases hq : tk'.v.ownBlock with
      | none => exact .inl rfl
      | some g => exact .inr fun e => hj (hi.tdis j t tk' tok g h htok hq e.symm)
  · intro j j' tk1 tk2 g h1 h2 hg1 hg2
    rcases hget h1 with ⟨q1, q1'⟩ | ⟨q1, q1'⟩ <;> rcases hget h2 with ⟨q2, q2'⟩ | ⟨q2, q2'⟩
    · rw [q1, q2]
    · rw [q1'] at hg1
      exact absurd hg2 ((hnew g hg1).2 j' tk2 q2 q2')
    · rw [q2'] at hg2
      exact absurd hg1 ((hnew g hg2).2 j tk1 q1 q1')
    · exact hi.tdis j j' tk1 tk2 g q1' q2' hg1 hg2
  · intro b o h
    rcases h with h | h
    · exact Nat.lt_of_lt_of_le (hi.muts b o h.1) hg.size
    · exact (own_lt' hown' h.2.1).2
theorem own_nil_iff {w : World} {base : Nat} {e : TypeId} {size n : Nat} {v : Value} {xs : List Value} (h : w.ownsRow base e size v n xs) : (v = .slice none 0 0 ∧ n = 0) ∨ ∃ g cap, v = .slice (some ⟨g, 0, none⟩) n cap ∧ v.ownBlock = some g ∧ n ≤ cap := by
  rcases h.2 with h | ⟨g, cap, cur, rfl, _, _, h1, _⟩
  · exact .inl h
  · exact .inr ⟨g, cap, rfl, rfl, h1⟩
def zeroHas (P : Program) (t : TypeId) : Bool := match P.info? t with
  | some i => match i.zero with
    | some v => v.cells.size == i.size
    | none => false
  | none => false
theorem zeroHas_spec {t : TypeId} (h : zeroHas P t = true) : ∃ i v, P.info? t = some i ∧ i.zero = some v ∧ v.cells.size = i.size := by
  unfold zeroHas at h
  split at h
  · rename_i i hi
    split at h
    · rename_i v hv
      exact ⟨i, v, hi, hv, by simpa using h⟩
    · cases h
  · cases h
theorem app_own (hi : Inv Pr κ st) {T U ty e : TypeId} {size bytes : Nat} (hu : P.underlying T = some (.slice e)) (hxt : ∃ d, P.underlying U = some d ∧ ∀ k, d ≠ .int k) (hz : zeroHas P e = true) (hs : szIs P e size = true) (hby : bytesIs P e bytes = true)
    {n : Nat} {nz : Bool} {cs : List D} {t : Nat} {x : V} {m : Nat} {ds : List D} (hvw : vw size st x = some (m, ds)) (htip : st.tips[t]? = some n) (hcl : cs.length = n * size) (hb : (n + m) * bytes ≤ 140737488355328) (hn : n + m ≤ 140737488355328) (hdl : ds.length = m * size)
    {vs vx : Value} (hvs : Rep κ (.own size n nz cs t) vs) (hvx : Rep κ x vx) :
    Mem P Pr κ { st with tips := st.tips.set t (n + m) } (.own size (n + m) (nz || decide (0 < n + m)) (cs ++ ds) t) (Builtin.append_ #[T, U] ty #[vs, vx]) := by
  obtain ⟨hd, tok, htok, hsz, hle, hcur⟩ := hvs
  have htn : tok.n = n := by
    have := hi.tips
    rw [this, List.getElem?_map, htok] at htip
    simpa using htip
  subst htn
  obtain rfl := hcur rfl
  subst hsz
  obtain ⟨l, ha, hsrc, hone⟩ := src_cells hi hvw hdl hvx
  obtain ⟨⟨xs, hown⟩, htk⟩ := hi.toks t tok htok
  obtain ⟨i, zv, h1, h2, h4⟩ := zeroHas_spec hz
  obtain ⟨i', h1', h5⟩ := szIs_spec hs
  obtain rfl : i = i' := by rw [h1] at h1'; exact Option.some.inj h1'
  have h6 : i.bytes = bytes := by
    unfold bytesIs at hby
    rw [h1] at hby
    simpa using hby
  have hll := ha.length
  obtain ⟨v', w', e', r1, r2, r3, r4, r5, hm0⟩ := run_append_src (P := P) κ.w κ.w0.heap.size T U ty e i zv tok.size bytes hu hxt h1 h2 h5 h6 (by omega) tok.v tok.n xs tok.e hown vx m l (by omega)
    (fun w' hw => ⟨(hsrc P w' hw).1, by have := (hsrc P w' hw).2 m (Nat.le_refl _); rwa [List.take_of_length_le (by omega)] at this⟩) hone (by simp only [maxLen]; omega) hb hi.below.size
  obtain ⟨k1, k2⟩ := app_inv hi htok hown r2 r3 r4 hm0
  refine ⟨_, v', r1, k1, k2, ?_, ⟨v', e', tok.size, tok.n + m⟩, ?_, rfl, Nat.le_refl _, fun _ => rfl⟩
  · have hcells : ∀ (b o : Nat), tok.v = .slice (some ⟨b, o, none⟩) tok.n (match tok.v with | .slice _ _ c => c | _ => 0) → tok.v.ownBlock = some b := fun b o h => by rw [h]; rfl
    simp only [RepD] at hd ⊢
    obtain ⟨A, cap, hv, d1, d2, d3, d4⟩ := hd
    rcases own_nil_iff r2 with ⟨hv', hz0⟩ | ⟨g, cap', hv', hob, hcap⟩
    · obtain ⟨hvn, hm⟩ := r5.1 hv'
      have hA : A = none := by
        rw [hv] at hvn
        exact (Value.slice.inj hvn).1
      subst hA
      have hn0 : tok.n = 0 := by omega
      refine ⟨none, 0, by rw [hv', hz0], by omega, ?_, fun _ => rfl, .inl ?_⟩
      · rw [d2, hz0]
        rfl
      · have e1 : cs = [] := List.eq_nil_of_length_eq_zero (by rw [hcl, hn0]; simp)
        have e2 : ds = [] := List.eq_nil_of_length_eq_zero (by rw [hdl, hm]; simp)
        rw [e1, e2]
        rfl
    · refine ⟨_, cap', hv', hcap, ?_, by simp, .inr ⟨g, 0, rfl, RepL.of fun j c hj => ?_⟩⟩
      · by_cases hpos : 0 < tok.n + m
        · simp [hpos]
        · have hm : m = 0 := by omega
          have := hm0 hm
          rw [this, hv] at hv'
          have hA := (Value.slice.inj hv').1
          rw [d2, hA]
          rfl
      · have hnowr : j < (tok.n + m) * tok.size → ¬ (κ.app w' t v' e' tok.size (tok.n + m)).wr g (0 + j) := by
          rintro hj (hw | hw)
          · have := hw.2 hob; omega
          · have := hw.2.2; omega
        have hcw := hown.1
        rw [List.getElem?_append] at hj
        split at hj
        · rename_i hjc
          rcases d4 with rfl | ⟨b, o, hA, hl4⟩
          · simp at hjc
          obtain ⟨y, hy, hyr⟩ := hl4.get hj
          have hob0 : tok.v.ownBlock = some b := by rw [hv, hA]; rfl
          have ho0 : o = 0 := by
            rcases own_nil_iff hown with ⟨q, _⟩ | ⟨g0, c0, q, _⟩
            · rw [hv, hA] at q; simp at q
            · rw [hv, hA] at q
              simp only [Value.slice.injEq, Option.some.injEq, Addr.mk.injEq] at q
              exact q.1.2.1
          subst ho0
          have hjx : j < xs.length := by omega
          have h9 := hown.cells hob0 j xs[j] (List.getElem?_eq_getElem hjx)
          rw [Addr.add_lit] at h9
          have hyx : y = xs[j] := by
            have := hy.1
            rw [h9] at this
            exact (Option.some.inj this).symm
          refine ⟨y, ⟨?_, hnowr ?_⟩, RepD.mono k1.imm _ _ hyr⟩
          · have := r2.cells hob j y (by rw [List.getElem?_append_left hjx, List.getElem?_eq_getElem hjx, hyx])
            rw [Addr.add_lit] at this
            exact this
          · rw [Nat.add_mul]; omega
        · rename_i hjc
          obtain ⟨y, hy, hyr⟩ := ha.get hj
          have hyl := (List.getElem?_eq_some_iff.1 hy).1
          refine ⟨y, ⟨?_, hnowr ?_⟩, RepD.mono k1.imm _ _ hyr⟩
          · have := r2.cells hob j y (by rw [List.getElem?_append_right (by omega), show j - xs.length = j - cs.length by omega]; exact hy)
            rw [Addr.add_lit] at this
            exact this
          · rw [Nat.add_mul]; omega
  · show (κ.tk.set t _)[t]? = _
    rw [List.getElem?_set, if_pos rfl, if_pos (List.getElem?_eq_some_iff.1 htok).1]
end
end Go.Sh
