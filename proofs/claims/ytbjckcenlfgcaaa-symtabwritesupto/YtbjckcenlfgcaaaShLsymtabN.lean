/- The law SymtabWrites on shadow runs. -/
import Derived.Test.YtbjckcenlfgcaaaShLsymtabM
import Derived.Test.YtbjckcenlfgcaaaShLsymtabH
import Derived.Test.YtbjckcenlfgcaaaShLbookG
set_option linter.unusedVariables false
set_option linter.unusedSimpArgs false
namespace Go.Sh
theorem lrow_all (ss : List Sym) : lrow ss ss.length = ofDs (ss.map Sym.cells).flatten := by
  have key : ∀ k, k ≤ ss.length → (List.range k).flatMap (lcell ss) = ((ss.take k).map Sym.cells).flatten := by
    intro k
    induction k with
    | zero => intro _; rfl
    | succ k ih =>
      intro hk
      have hx : ss[k]? = some ss[k] := List.getElem?_eq_getElem hk
      rw [List.range_succ, List.flatMap_append, ih (by omega), List.take_add_one, hx, List.map_append, List.flatten_append]
      congr 1
      have hlc : lcell ss k = ss[k].cells := by unfold lcell; rw [hx]
      simp [hlc]
  rw [lrow, key _ (Nat.le_refl _), List.take_length]
theorem lrow_take (ss : List Sym) (t : List V) {k n : Nat} (h : k ≤ n) : (lrow ss n ++ t).take (k * 6) = lrow ss k := by
  obtain ⟨d, rfl⟩ := Nat.exists_eq_add_of_le h
  have : lrow ss (k + d) = lrow ss k ++ ofDs ((List.range d).flatMap fun i => lcell ss (k + i)) := by
    simp [lrow, ofDs, List.range_add, List.flatMap_append, List.flatMap_map]
  rw [this, List.append_assoc]
  exact List.take_left' (by rw [lrow_len]; omega)
theorem BkI.gr {st s : St} {p : Nat} {b : Bk} {A : Nat → Prop} {P : V → Prop} (h : BkI st p b) (g : Gr st s A P) (hl : ∀ a r, b.lab p a = some r → ¬ A r) (hv : ∀ v, v ∈ b.kv ∨ v ∈ b.wv → ∀ r, foot v = some r → ¬ A r) : BkI s p b := by
  refine ⟨g.floor.trans h.fl, (g.keep p (row_lt h.row) (hl 0 p rfl)).trans h.row, h.F.gr g (hl 1), h.H.gr g (hl 2), h.M.gr g (hl 3), h.K.gr g (hl 4), h.W.gr g (hl 5), fun x hx => (h.fr x hx).gr g fun r hr => ?_, fun i k w hk hw => ?_, h.sep, h.out, h.small, h.size, h.total⟩
  · obtain ⟨i, hi⟩ := List.mem_iff_getElem?.1 hx
    exact hl (i + 6) r (by simp [Bk.lab, hi, hr])
  · obtain ⟨L, h1, h2⟩ := h.kw i k w hk hw
    exact ⟨L, h1.gr g (hv k (.inl (List.mem_of_getElem? hk))), h2.gr g (hv w (.inr (List.mem_of_getElem? hw)))⟩
theorem BkI.vbyt {st : St} {p : Nat} {b : Bk} (h : BkI st p b) {v : V} (hv : v ∈ b.kv ∨ v ∈ b.wv) : ∃ L, Byt st v L := by
  have hwl : b.wv.length = b.kv.length := by simpa using h.W.1
  rcases hv with hv | hv
  · obtain ⟨i, hi⟩ := List.mem_iff_getElem?.1 hv
    have hlt := (List.getElem?_eq_some_iff.1 hi).1
    obtain ⟨w, hw⟩ : ∃ w, b.wv[i]? = some w := ⟨_, List.getElem?_eq_getElem (by omega)⟩
    obtain ⟨L, h1, _⟩ := h.kw i v w hi hw
    exact ⟨L, h1⟩
  · obtain ⟨i, hi⟩ := List.mem_iff_getElem?.1 hv
    have hlt := (List.getElem?_eq_some_iff.1 hi).1
    obtain ⟨w, hw⟩ : ∃ w, b.kv[i]? = some w := ⟨_, List.getElem?_eq_getElem (by omega)⟩
    obtain ⟨L, _, h1⟩ := h.kw i w v hw hi
    exact ⟨L, h1⟩
/-- A book and a desk. -/
structure SW (s : St) (p q : Nat) (b : Bk) (id : Option Nat) : Prop where
  bk : BkI s p b
  dk : DeskI s q id
  frl : b.fr.length ≤ 2
  off : ∀ r, r = q ∨ id = some r → (∀ a, b.lab p a ≠ some r) ∧ ∀ v, v ∈ b.kv ∨ v ∈ b.wv → foot v ≠ some r
def lawWFns : List (Nat × SFn) := [(120, F120_spindlelaw10_writes), (122, F122_spindlelaw10_SymtabWrites)]
def wW : Nat → Bool := fun f => f == 31 || f == 126 || f == 120 || f == 121
section
variable {pr : Prog} (hp : Sub symFns pr) (hb : Sub bookFns pr) (hd : Sub deskFns pr) (hr : Sub refWFns pr) (hw : Sub lawWFns pr) (hnum : ∀ x st, den pr 12 [.d (.i .i64 x)] st = some (.d (.i .i64 x), st))
include hp hb hd hr hw hnum
theorem callW_writes {s : St} {p q : Nat} {b : Bk} {id : Option Nat} (h : SW s p q b id) {u : V} {ss : List Sym} (hu : SlD 6 u (ss.map Sym.cells)) (hn : ss.length ≤ 40000000000) (hss : ∀ x ∈ ss, x.value ≤ 9223372036854775807 ∧ x.size ≤ 9223372036854775807) (hkl : b.kv.length ≤ 899998000) (ht : b.total ≤ 4611680000000000000) :
    CallW pr 120 [u, .ptr q 0, .ptr p 0] s fun v s' => v = .d (.b true) ∧ ∃ b' id', SW s' p q b' id' ∧ b'.kv.length ≤ b.kv.length + 18 ∧ b'.total ≤ b.total + (24 * ss.length + 24 : Nat) := by
  refine .run wW (hw.at 0 rfl) rfl ?_
  rw [start_raw _ rfl]
  refine codeC_of ?_
  obtain ⟨i, s1, hlend, hl1, g1, hnew⟩ := den_Lend hd h.dk h.bk.fl hu (by omega)
  have hlen := hu.len
  rw [List.length_map] at hlen
  have href := fun st => den_refWrite hr (st := st) hu.c (by omega) hss
  have hl1c := hl1
  -- the book
  have bk1 : BkI s1 p b := h.bk.gr g1 (fun a r hr e => (h.off r e).1 a hr) fun v hv r hr e => (h.off r e).2 v hv hr
  have hqi : ∀ r, r = q ∨ r = i → (∀ a, b.lab p a ≠ some r) ∧ (∀ v, v ∈ b.kv ∨ v ∈ b.wv → foot v ≠ some r) := by
    rintro r (rfl | rfl)
    · exact h.off r (.inl rfl)
    · rcases hnew with e | e
      · exact h.off r (.inr e)
      · refine ⟨fun a e' => ?_, fun v hv e' => ?_⟩
        · have := h.bk.lablt a r e'; omega
        · obtain ⟨L, hb'⟩ := h.bk.vbyt hv
          have := hb'.lt e'; omega
  obtain ⟨hiq, m, tail, hq1, hm, hi1, hc1⟩ := hl1c
  have hsee : ∀ k, see1 s1 (k + 1) (.rsl 6 i 0 ss.length (2 * ss.length + 70)) = some (.d (.sl ss.length true (ss.map Sym.cells).flatten)) := by
    intro k
    have h1 : ss.length * 6 ≤ (lrow ss (2 * ss.length + 70) ++ tail).length := by omega
    simp only [see1, seeD, hi1, Nat.zero_add, h1, if_true, List.drop_zero, lrow_take ss tail (show ss.length ≤ 2 * ss.length + 70 by omega), lrow_all, seeL_ofDs, Option.map_some]
  have hu2 : SlD 6 (.d (.sl ss.length true (ss.map Sym.cells).flatten)) (ss.map Sym.cells) := ⟨hu.1, true, by rw [List.length_map]⟩
  obtain ⟨want, kind, hwo⟩ : ∃ want kind, wrOut ss = [want, kind] := by
    unfold wrOut
    split <;> exact ⟨_, _, rfl⟩
  simp [F120_spindlelaw10_writes, wW, hlend, href, hwo]
  refine (callW_Write (m := 1) hp (seeA_one (hsee 0)) hu2 (by omega)).mono ?_
  intro v s2 hv
  obtain ⟨got, L, j, kz, nzw, rfl, hwant, hkind, hgot, g2, hj, hLl⟩ : ∃ got L j kz nzw, v = .tup [got, .d (.i .i64 kz)] ∧ want = bsl nzw L ∧ kind = .d (.i .i64 kz) ∧ LR s2 1 got L.length (ofDs (byteCells L)) j ∧ Gr s1 s2 (fun _ => False) (fun _ => True) ∧ (∀ r, j = some r → r = s1.heap.length) ∧ L.length ≤ 24 * ss.length + 24 := by
    rcases hv with ⟨o, c, k, hwr, rfl, rfl⟩ | ⟨k, hwr, rfl, rfl⟩
    · have hlen := symFile_len hwr
      have hcells : zeros24 ++ c = byteCells (symFile ss) := by
        unfold symFile
        rw [byteCells_app, ← zeros24_eq, wrRun_enc ss hwr]
      simp only [wrOut, hwr, List.cons.injEq] at hwo
      refine ⟨_, symFile ss, some s1.heap.length, 0, true, rfl, ?_, hwo.2.1.symm, ⟨by simp [ofDs, byteCells], .inr ⟨_, _, _, rfl, rfl, Nat.le_add_right _ _, row_push_new rfl, by simp; omega⟩⟩, .push _, (fun r hr => (Option.some.inj hr).symm), by omega⟩
      rw [← hwo.1, hcells, bsl, hlen]
    · simp only [wrOut, hwr, List.cons.injEq] at hwo
      exact ⟨_, [], none, k, false, rfl, hwo.1.symm, hwo.2.1.symm, .nil _ _, .refl _ _ _, (fun r hr => by cases hr), by simp⟩
  subst hwant
  subst hkind
  have hb1 := (hgot.byt).1.b2s
  have hb2 : ∀ st, b2sV st (bsl nzw L) = some (.d (.s L)) := fun st => (show Byt st (bsl nzw L) L from ⟨rfl, rfl⟩).b2s
  have hl2 : LentI s2 q i ss := ⟨hiq, m, tail, (g2.keep q (row_lt hq1) fun e => e).trans hq1, hm, (g2.keep i (row_lt hi1) fun e => e).trans hi1, hc1⟩
  have hback := den_Back hd hl2 hu (by omega)
  have bk2 : BkI s2 p b := bk1.gr g2 (fun _ _ _ e => e) fun _ _ _ _ e => e
  simp [wW, hnum, hb1, hb2, hback, hlen]
  have hj2 : ∀ r, j = some r → (∀ a, b.lab p a ≠ some r) ∧ ∀ v, v ∈ b.kv ∨ v ∈ b.wv → foot v ≠ some r := by
    intro r hr
    have := hj r hr
    refine ⟨fun a e => ?_, fun v hv e => ?_⟩
    · have := bk1.lablt a r e; omega
    · obtain ⟨L, hb'⟩ := bk1.vbyt hv
      have := hb'.lt e; omega
  refine callW_Own hb bk2 hgot hj2 (by omega) _ h.frl hkl (by omega) ?_
  intro s3 b' hO
  have hA : ∀ r, r = q ∨ r = i → ¬ ((∃ a, b.lab p a = some r) ∨ j = some r ∨ s2.heap.length ≤ r) := by
    intro r hr e
    have hlt : r < s1.heap.length := by
      rcases hr with rfl | rfl
      · exact row_lt hq1
      · exact row_lt hi1
    have := g2.len
    rcases e with ⟨a, e⟩ | e | e
    · exact (hqi r hr).1 a e
    · have := hj r e; omega
    · omega
  have hq2 := hl2
  obtain ⟨_, m', tail', hq2', hm', hi2', hc2'⟩ := hq2
  have hl3 : LentI s3 q i ss := ⟨hiq, m', tail', (hO.gr.keep q (row_lt hq2') (hA q (.inl rfl))).trans hq2', hm', (hO.gr.keep i (row_lt hi2') (hA i (.inr rfl))).trans hi2', hc2'⟩
  have hq3l : q < s3.heap.length := by obtain ⟨_, _, _, e1, _⟩ := hl3; exact row_lt e1
  have hback3 := den_Back hd hl3 hu (by omega)
  have hholds := den_Holds hb hO.bk
  simp [wW, hholds, hback3, FinW]
  refine ⟨b', ⟨some i, hO.bk, ⟨hq3l, .inr ?_⟩, hO.frl, ?_⟩, hO.kl, by have := hO.total; omega⟩
  · obtain ⟨_, m3, t3, e1, e2, e3, e4⟩ := hl3
    exact ⟨i, m3, _, rfl, hiq, e1, e3, e4⟩
  · intro r hr
    have hr' : r = q ∨ r = i := hr.imp (fun e => e) fun e => (Option.some.inj e).symm
    have hAr := hA r hr'
    refine ⟨fun a e => hAr (hO.lo a r e), fun v hv e => ?_⟩
    rcases hO.vo v hv r e with (⟨v0, h0, h1⟩ | e | e) | e
    · exact (hqi r hr').2 v0 h0 h1
    · exact hAr (.inl e)
    · exact hAr (.inr (.inr e))
    · exact hAr (.inr (.inl e))
end
end Go.Sh
