/- Books: lists that are kept, and that are grown, in rows that are told apart by labels. -/
import Derived.Test.YtbjckcenlfgcaabDoorShLbookC
set_option linter.unusedVariables false
set_option linter.unusedSimpArgs false
namespace Go.Sh
def upd (lab : Nat → Option Nat) (a : Nat) (j : Option Nat) : Nat → Option Nat := fun c => if c = a then j else lab c
theorem upd_eq {lab : Nat → Option Nat} {a : Nat} {j : Option Nat} : upd lab a j a = j := by simp [upd]
theorem upd_ne {lab : Nat → Option Nat} {a c : Nat} {j : Option Nat} (h : c ≠ a) : upd lab a j c = lab c := by simp [upd, h]
/-- Labels of rows: no row has two. -/
structure Labs (s : St) (lab : Nat → Option Nat) : Prop where
  lt : ∀ a r, lab a = some r → r < s.heap.length
  sep : ∀ a c r, lab a = some r → lab c = some r → a = c
theorem Labs.set {s s' : St} {lab : Nat → Option Nat} (h : Labs s lab) (hl : s.heap.length ≤ s'.heap.length) {a : Nat} {j : Option Nat} (hn : NewOr s s' (lab a) j) : Labs s' (upd lab a j) := by
  have hlt : ∀ c r, upd lab a j c = some r → r < s'.heap.length := by
    intro c r hr
    by_cases hc : c = a
    · subst hc
      rw [upd_eq] at hr
      rcases hn with rfl | ⟨i, rfl, h1, h2⟩
      · have := h.lt c r hr; omega
      · obtain rfl := Option.some.inj hr; exact h2
    · rw [upd_ne hc] at hr
      have := h.lt c r hr; omega
  refine ⟨hlt, fun c d r hc hd => ?_⟩
  have key : ∀ c r, c ≠ a → lab c = some r → j = some r → False := by
    intro c r hca hr hj
    rcases hn with rfl | ⟨i, rfl, h1, _⟩
    · exact hca (h.sep c a r hr hj)
    · obtain rfl := Option.some.inj hj
      have := h.lt c _ hr; omega
  by_cases hca : c = a <;> by_cases hda : d = a
  · rw [hca, hda]
  · subst hca
    rw [upd_eq] at hc
    rw [upd_ne hda] at hd
    exact (key d r hda hd hc).elim
  · subst hda
    rw [upd_eq] at hd
    rw [upd_ne hca] at hc
    exact (key c r hca hc hd).elim
  · rw [upd_ne hca] at hc
    rw [upd_ne hda] at hd
    exact h.sep c d r hc hd
theorem Labs.drop {s : St} {lab : Nat → Option Nat} (h : Labs s lab) (a : Nat) : Labs s (upd lab a none) := by
  refine ⟨fun c r hr => ?_, fun c d r hc hd => ?_⟩
  · by_cases hc : c = a
    · subst hc; rw [upd_eq] at hr; cases hr
    · rw [upd_ne hc] at hr; exact h.lt c r hr
  · have hca : c ≠ a := by rintro rfl; rw [upd_eq] at hc; cases hc
    have hda : d ≠ a := by rintro rfl; rw [upd_eq] at hd; cases hd
    rw [upd_ne hca] at hc
    rw [upd_ne hda] at hd
    exact h.sep c d r hc hd
theorem Labs.mono {s s' : St} {lab : Nat → Option Nat} (h : Labs s lab) (hl : s.heap.length ≤ s'.heap.length) : Labs s' lab := ⟨fun a r hr => Nat.lt_of_lt_of_le (h.lt a r hr) hl, h.sep⟩
/-- No label's row. -/
def Free (lab : Nat → Option Nat) (v : V) : Prop := ∀ r, foot v = some r → ∀ a, lab a ≠ some r
theorem Free.drop {lab : Nat → Option Nat} {v : V} (h : Free lab v) (a : Nat) : Free (upd lab a none) v := by
  intro r hr c hc
  by_cases hca : c = a
  · subst hca; rw [upd_eq] at hc; cases hc
  · rw [upd_ne hca] at hc; exact h r hr c hc
theorem Free.set {s s' : St} {lab : Nat → Option Nat} {v : V} {L : List UInt8} (h : Free lab v) (hb : Byt s v L) {a : Nat} {j : Option Nat} (hn : NewOr s s' (lab a) j) : Free (upd lab a j) v := by
  intro r hr c hc
  by_cases hca : c = a
  · subst hca
    rw [upd_eq] at hc
    rcases hn with rfl | ⟨i, rfl, h1, _⟩
    · exact h r hr c hc
    · obtain rfl := Option.some.inj hc
      have := hb.lt hr; omega
  · rw [upd_ne hca] at hc; exact h r hr c hc
theorem Byt.leng {s s' : St} {v : V} {L L' : List UInt8} (h : Byt s v L) (h' : Byt s' v L') : L.length = L'.length := by
  cases v with
  | d d =>
    cases d with
    | sl n nz cs => exact h.1.symm.trans h'.1
    | _ => exact h.elim
  | own sz n nz cs t => exact h.1.symm.trans h'.1
  | rsl sz id off n cap => exact h.2.2.1.symm.trans h'.2.2.1
  | _ => exact h.elim
/-- A book while it is at work. 0: the book, 2: what has grown, 4: what is kept, 5: what it must hold. -/
structure BI (s : St) (p : Nat) (c t F H M K W G : V) (lab : Nat → Option Nat) (kv wv gv : List V) : Prop where
  fl : s.floor = 0
  row : s.row p = some [c, t, .d (.b false), F, H, M, K, W]
  p0 : lab 0 = some p
  K : LR s 1 K kv.length kv (lab 4)
  W : LR s 1 W kv.length wv (lab 5)
  G : LR s 1 G gv.length gv (lab 2)
  gb : ∀ g ∈ gv, (g.ok1 = true ∧ g.cs = [g]) ∧ ∃ L, Byt s g L ∧ L.length ≤ 2199023255552
  kw : ∀ (i : Nat) k w, kv[i]? = some k → wv[i]? = some w → ∃ L, Byt s k L ∧ Byt s w L
  labs : Labs s lab
  free : ∀ v, v ∈ kv ∨ v ∈ wv ∨ v ∈ gv → Free lab v
section
variable {s s' : St} {p : Nat} {c t F H M K W G : V} {lab : Nat → Option Nat} {kv wv gv : List V} {A : Nat → Prop} {P : V → Prop}
theorem BI.wlen (h : BI s p c t F H M K W G lab kv wv gv) : wv.length = kv.length := by simpa using h.W.1
theorem BI.kbyt (h : BI s p c t F H M K W G lab kv wv gv) {k : V} (hk : k ∈ kv) : ∃ L, Byt s k L := by
  obtain ⟨i, hi⟩ := List.mem_iff_getElem?.1 hk
  have hlt := (List.getElem?_eq_some_iff.1 hi).1
  obtain ⟨w, hw⟩ : ∃ w, wv[i]? = some w := ⟨_, List.getElem?_eq_getElem (by have := h.wlen; omega)⟩
  obtain ⟨L, h1, _⟩ := h.kw i k w hi hw
  exact ⟨L, h1⟩
theorem BI.wbyt (h : BI s p c t F H M K W G lab kv wv gv) {w : V} (hw : w ∈ wv) : ∃ L, Byt s w L := by
  obtain ⟨i, hi⟩ := List.mem_iff_getElem?.1 hw
  have hlt := (List.getElem?_eq_some_iff.1 hi).1
  obtain ⟨k, hk⟩ : ∃ k, kv[i]? = some k := ⟨_, List.getElem?_eq_getElem (by have := h.wlen; omega)⟩
  obtain ⟨L, _, h1⟩ := h.kw i k w hk hi
  exact ⟨L, h1⟩
theorem BI.vbyt (h : BI s p c t F H M K W G lab kv wv gv) {v : V} (hv : v ∈ kv ∨ v ∈ wv ∨ v ∈ gv) : ∃ L, Byt s v L := by
  rcases hv with hv | hv | hv
  · exact h.kbyt hv
  · exact h.wbyt hv
  · exact ((h.gb v hv).2).imp fun _ h => h.1
/-- Other rows are written, of labels of their own, or new ones. -/
theorem BI.gr (h : BI s p c t F H M K W G lab kv wv gv) (g : Gr s s' A P) (hA : ∀ r, r < s.heap.length → A r → ∃ a, a ≠ 0 ∧ a ≠ 2 ∧ a ≠ 4 ∧ a ≠ 5 ∧ lab a = some r) : BI s' p c t F H M K W G lab kv wv gv := by
  have hl : ∀ a, a = 0 ∨ a = 2 ∨ a = 4 ∨ a = 5 → ∀ r, lab a = some r → ¬ A r := by
    intro a ha r hr hAr
    obtain ⟨d, d0, d2, d4, d5, hd⟩ := hA r (h.labs.lt a r hr) hAr
    have := h.labs.sep a d r hr hd
    omega
  have hf : ∀ v, v ∈ kv ∨ v ∈ wv ∨ v ∈ gv → ∀ L, Byt s v L → Byt s' v L := by
    intro v hv L hb
    refine hb.gr g fun r hr hAr => ?_
    obtain ⟨d, _, _, _, _, hd⟩ := hA r (hb.lt hr) hAr
    exact h.free v hv r hr d hd
  refine ⟨g.floor.trans h.fl, (g.keep p (row_lt h.row) (hl 0 (.inl rfl) p h.p0)).trans h.row, h.p0, h.K.gr g (hl 4 (by omega)), h.W.gr g (hl 5 (by omega)), h.G.gr g (hl 2 (by omega)), fun g' hg => ⟨(h.gb g' hg).1, ?_⟩, ?_, h.labs.mono g.len, h.free⟩
  · obtain ⟨L, hb, hl⟩ := (h.gb g' hg).2
    exact ⟨L, hf g' (.inr (.inr hg)) L hb, hl⟩
  · intro i k w hk hw
    obtain ⟨L, h1, h2⟩ := h.kw i k w hk hw
    exact ⟨L, hf k (.inl (List.mem_of_getElem? hk)) L h1, hf w (.inr (.inl (List.mem_of_getElem? hw))) L h2⟩
theorem BI.drop (h : BI s p c t F H M K W G lab kv wv gv) {a : Nat} (h0 : a ≠ 0) (h2 : a ≠ 2) (h4 : a ≠ 4) (h5 : a ≠ 5) : BI s p c t F H M K W G (upd lab a none) kv wv gv :=
  ⟨h.fl, h.row, by rw [upd_ne (Ne.symm h0)]; exact h.p0, by rw [upd_ne (Ne.symm h4)]; exact h.K, by rw [upd_ne (Ne.symm h5)]; exact h.W, by rw [upd_ne (Ne.symm h2)]; exact h.G, h.gb, h.kw, h.labs.drop a, fun v hv => (h.free v hv).drop a⟩
theorem foot_one {v : V} {L : List UInt8} (h : Byt s v L) : v.ok1 = true ∧ v.cs = [v] := by
  cases v with
  | d d => exact ⟨rfl, rfl⟩
  | own sz n nz cs t => exact ⟨rfl, rfl⟩
  | rsl sz id off n cap => exact ⟨rfl, rfl⟩
  | _ => exact h.elim
variable {pr : Prog} (hp : Sub bookFns pr)
include hp
/-- A list more is kept. -/
theorem BI.keep (h : BI s p c t F H M K W G lab kv wv gv) {k w : V} {L : List UInt8} (hk : Byt s k L) (hw : Byt s w L) (fk : Free lab k) (fw : Free lab w) (hn : kv.length ≤ 1000000000) {Q : V → St → Prop}
    (hQ : ∀ s' K' W' j4 j5, BI s' p c t F H M K' W' G (upd (upd lab 4 j4) 5 j5) (kv ++ [k]) (wv ++ [w]) gv → Gr s s' (fun r => lab 0 = some r ∨ lab 4 = some r ∨ lab 5 = some r) (fun _ => True) → NewOr s s' (lab 4) j4 → NewOr s s' (lab 5) j5 → Q (.tup []) s') : CallW pr 132 [.ptr p 0, k, w] s Q := by
  have hne : ∀ a d, a ≠ d → ∀ r, lab a = some r → lab d ≠ some r := fun a d had r ha hd => had (h.labs.sep a d r ha hd)
  refine callW_keep hp h.fl h.row h.K h.W (fun e => hne 4 0 (by omega) p e h.p0) (fun e => hne 5 0 (by omega) p e h.p0) (hne 4 5 (by omega)) hn (foot_one hk) (foot_one hw) ?_
  intro s1 K' W' j4 j5 hrow hK hW g n4 n5 h45
  have hA : ∀ r, (r = p ∨ lab 4 = some r ∨ lab 5 = some r) → lab 0 = some r ∨ lab 4 = some r ∨ lab 5 = some r := fun r hr => hr.imp (fun e => by rw [e]; exact h.p0) id
  have hbyt : ∀ {v : V} {L : List UInt8}, Byt s v L → Free lab v → Byt s1 v L := by
    intro v L hb hf
    refine hb.gr g fun r hr hAr => ?_
    rcases hA r hAr with h1 | h1 | h1
    · exact hf r hr 0 h1
    · exact hf r hr 4 h1
    · exact hf r hr 5 h1
  have hl1 : Labs s1 (upd (upd lab 4 j4) 5 j5) := by
    have h1 := h.labs.set g.len n4
    refine ⟨fun a r hr => ?_, fun a d r ha hd => ?_⟩
    · by_cases ha : a = 5
      · subst ha; rw [upd_eq] at hr; exact hW.lt hr
      · rw [upd_ne ha] at hr; exact h1.lt a r hr
    · have key : ∀ e q, e ≠ 5 → upd lab 4 j4 e = some q → j5 ≠ some q := by
        intro e q he hq hj
        by_cases he4 : e = 4
        · subst he4; rw [upd_eq] at hq; exact h45 q hq hj
        · rw [upd_ne he4] at hq
          rcases n5 with h5 | ⟨i, h5, h2, _⟩
          · rw [h5] at hj
            exact he (h.labs.sep e 5 q hq hj)
          · rw [h5] at hj
            obtain rfl := Option.some.inj hj
            have := h.labs.lt e _ hq; omega
      by_cases ha5 : a = 5 <;> by_cases hd5 : d = 5
      · rw [ha5, hd5]
      · subst ha5; rw [upd_eq] at ha; rw [upd_ne hd5] at hd
        exact absurd ha (key d r hd5 hd)
      · subst hd5; rw [upd_eq] at hd; rw [upd_ne ha5] at ha
        exact absurd hd (key a r ha5 ha)
      · rw [upd_ne ha5] at ha; rw [upd_ne hd5] at hd
        exact h1.sep a d r ha hd
  have hfree : ∀ v, (∃ L, Byt s v L) → Free lab v → Free (upd (upd lab 4 j4) 5 j5) v := by
    rintro v ⟨L, hb⟩ hf r hr a ha
    by_cases ha5 : a = 5
    · subst ha5; rw [upd_eq] at ha
      rcases n5 with rfl | ⟨i, rfl, h2, _⟩
      · exact hf r hr 5 ha
      · obtain rfl := Option.some.inj ha
        have := hb.lt hr; omega
    · rw [upd_ne ha5] at ha
      by_cases ha4 : a = 4
      · subst ha4; rw [upd_eq] at ha
        rcases n4 with rfl | ⟨i, rfl, h2, _⟩
        · exact hf r hr 4 ha
        · obtain rfl := Option.some.inj ha
          have := hb.lt hr; omega
      · rw [upd_ne ha4] at ha; exact hf r hr a ha
  refine hQ s1 K' W' j4 j5 ⟨g.floor.trans h.fl, hrow, ?_, ?_, ?_, ?_, ?_, ?_, hl1, ?_⟩ (g.mono (fun r _ => hA r) fun _ _ => trivial) n4 n5
  · rw [upd_ne (by omega), upd_ne (by omega)]; exact h.p0
  · rw [upd_ne (by omega), upd_eq, List.length_append]; exact hK
  · rw [upd_eq, List.length_append]; exact hW
  · rw [upd_ne (by omega), upd_ne (by omega)]
    refine h.G.gr g fun r hr hAr => ?_
    rcases hA r hAr with h1 | h1 | h1
    · exact hne 2 0 (by omega) r hr h1
    · exact hne 2 4 (by omega) r hr h1
    · exact hne 2 5 (by omega) r hr h1
  · intro g' hg
    obtain ⟨h1, L', h2, h3⟩ := h.gb g' hg
    exact ⟨h1, L', hbyt h2 (h.free g' (.inr (.inr hg))), h3⟩
  · intro i k' w' hk' hw'
    rcases Nat.lt_or_ge i kv.length with hi | hi
    · rw [List.getElem?_append_left hi] at hk'
      rw [List.getElem?_append_left (by have := h.wlen; omega)] at hw'
      obtain ⟨L', h1, h2⟩ := h.kw i k' w' hk' hw'
      exact ⟨L', hbyt h1 (h.free k' (.inl (List.mem_of_getElem? hk'))), hbyt h2 (h.free w' (.inr (.inl (List.mem_of_getElem? hw'))))⟩
    · have hil := (List.getElem?_eq_some_iff.1 hk').1
      rw [List.length_append, List.length_singleton] at hil
      have hie : i = kv.length := by omega
      subst hie
      have hwl := h.wlen
      rw [List.getElem?_append_right (by omega), Nat.sub_self] at hk'
      rw [← hwl, List.getElem?_append_right (by omega), Nat.sub_self] at hw'
      simp only [List.getElem?_cons_zero, Option.some.injEq] at hk' hw'
      subst hk'
      subst hw'
      exact ⟨L, hbyt hk fk, hbyt hw fw⟩
  · intro v hv
    simp only [List.mem_append, List.mem_singleton] at hv
    rcases hv with (hv | rfl) | (hv | rfl) | hv
    · exact hfree v (h.kbyt hv) (h.free v (.inl hv))
    · exact hfree _ ⟨L, hk⟩ fk
    · exact hfree v (h.wbyt hv) (h.free v (.inr (.inl hv)))
    · exact hfree _ ⟨L, hw⟩ fw
    · exact hfree v (((h.gb v hv).2).imp fun _ h => h.1) (h.free v (.inr (.inr hv)))
omit hp in
/-- Lists more that have grown. -/
theorem BI.grow (h : BI s p c t F H M K W G lab kv wv gv) {gs : List V} (hg : ∀ g ∈ gs, (∃ L, Byt s g L ∧ L.length ≤ 2199023255552) ∧ Free lab g) (hn : gv.length + gs.length ≤ 1000000000) {x : V} (hx : vwV 1 s x = some (gs.length, gs)) {Q : V → St → Prop}
    (hQ : ∀ s' G' j2, BI s' p c t F H M K W G' (upd lab 2 j2) kv wv (gv ++ gs) → Gr s s' (fun r => lab 2 = some r) (fun _ => True) → NewOr s s' (lab 2) j2 → Q G' s') : appW 1 24 [.sl 0 false []] s G x Q := by
  have hne : ∀ a d, a ≠ d → ∀ r, lab a = some r → lab d ≠ some r := fun a d had r ha hd => had (h.labs.sep a d r ha hd)
  refine appW_LR h.fl h.G hx (by simp) rfl (by omega) (by omega) ?_
  intro s1 G' j2 hG g n2
  have hbyt : ∀ {v : V} {L : List UInt8}, Byt s v L → Free lab v → Byt s1 v L := fun hb hf => hb.gr g fun r hr hAr => hf r hr 2 hAr
  refine hQ s1 G' j2 ⟨g.floor.trans h.fl, ?_, ?_, ?_, ?_, ?_, ?_, ?_, h.labs.set g.len n2, ?_⟩ (g.mono (fun _ _ h => h) fun _ _ => trivial) n2
  · exact (g.keep p (row_lt h.row) fun e => hne 2 0 (by omega) p e h.p0).trans h.row
  · rw [upd_ne (by omega)]; exact h.p0
  · rw [upd_ne (by omega)]; exact h.K.gr g fun r hr e => hne 4 2 (by omega) r hr e
  · rw [upd_ne (by omega)]; exact h.W.gr g fun r hr e => hne 5 2 (by omega) r hr e
  · rw [upd_eq, List.length_append]; exact hG
  · intro g' hg'
    rcases List.mem_append.1 hg' with hg' | hg'
    · obtain ⟨h1, L, h2, h3⟩ := h.gb g' hg'
      exact ⟨h1, L, hbyt h2 (h.free g' (.inr (.inr hg'))), h3⟩
    · obtain ⟨⟨L, h1, h3⟩, h2⟩ := hg g' hg'
      exact ⟨foot_one h1, L, hbyt h1 h2, h3⟩
  · intro i k w hk hw
    obtain ⟨L, h1, h2⟩ := h.kw i k w hk hw
    exact ⟨L, hbyt h1 (h.free k (.inl (List.mem_of_getElem? hk))), hbyt h2 (h.free w (.inr (.inl (List.mem_of_getElem? hw))))⟩
  · intro v hv
    rcases hv with hv | hv | hv
    · obtain ⟨L, hb⟩ := h.kbyt hv
      exact (h.free v (.inl hv)).set hb n2
    · obtain ⟨L, hb⟩ := h.wbyt hv
      exact (h.free v (.inr (.inl hv))).set hb n2
    · rcases List.mem_append.1 hv with hv | hv
      · obtain ⟨_, L, hb, _⟩ := h.gb v hv
        exact (h.free v (.inr (.inr hv))).set hb n2
      · obtain ⟨⟨L, hb, _⟩, hf⟩ := hg v hv
        exact hf.set hb n2
end
end Go.Sh
