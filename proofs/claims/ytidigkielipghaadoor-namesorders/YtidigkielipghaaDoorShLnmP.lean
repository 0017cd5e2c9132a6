/- NamesBind on shadow runs. -/
import Derived.Test.YtidigkielipghaaDoorShLnmO
set_option linter.unusedVariables false
set_option linter.unusedSimpArgs false
set_option linter.unusedSectionVars false
namespace Go.Sh
theorem globs1_snoc (l : List ObS) (o : ObS) : globs1 (l ++ [o]) = globs1 l + glob1 o.fn := by
  unfold globs1
  simp
theorem globs1_take (l : List ObS) (i : Nat) : globs1 (l.take i) ≤ globs1 l := by
  have h : globs1 (l.take i ++ l.drop i) = globs1 (l.take i) + globs1 (l.drop i) := by unfold globs1; rw [List.map_append, List.sum_append]
  rw [List.take_append_drop] at h
  omega
section
variable {pr : Prog} (hq : Sub nbFns pr) {os : List ObS} {u : V} (hu : SlD 5 u (os.map ObS.cells)) (hn : os.length ≤ 1099511627775) (hfew : ∀ o ∈ os, o.few) {F : List Bnd} {Tb : List TbS} {b1 b2 : Bool} (hB : BindOk os F Tb) {st : St} (hr0 : st.row 0 = some [dsl Bnd.cells b1 F, dsl TbS.cells b2 Tb]) {E : Env}
include hq hu hn hfew hB hr0
theorem loopB0 (hE : mask [0, 3, 6, 7] E = [(0, u), (3, .ptr 0 0), (6, .d (.i .i64 0)), (7, .d (.i .i64 0))]) :
    ∃ e, cden pr (.loop [0, 3, 6, 7] false F322_spindlelaw15_NamesBind_b0) E st = some (.exit 0, e, st) ∧ e.get 0 = some u ∧ e.get 3 = some (.ptr 0 0) ∧ e.get 6 = some (.d (.i .i64 (globs1 os : Nat))) := by
  have hlen := hu.len
  rw [List.length_map] at hlen
  obtain ⟨r, hr, e, rfl, hQ⟩ : ∃ r, cden pr (.loop [0, 3, 6, 7] false F322_spindlelaw15_NamesBind_b0) E st = some r ∧ ∃ e, r = (.exit 0, e, st) ∧ e.get 0 = some u ∧ e.get 3 = some (.ptr 0 0) ∧ e.get 6 = some (.d (.i .i64 (globs1 os : Nat))) := by
    obtain ⟨C, hC⟩ : ∃ C : Nat → Nat, ∀ i, C i = globs1 (os.take i) := ⟨_, fun _ => rfl⟩
    refine loop_n os.length (fun i => [(0, u), (3, .ptr 0 0), (6, .d (.i .i64 ((C i : Nat) : Int))), (7, .d (.i .i64 (i : Nat)))]) (fun _ => st) ?_ (by rw [hE, hC]; simp [globs1]) rfl
    intro i hi
    rcases Nat.lt_or_ge i os.length with hlt | hge
    · obtain ⟨o, ho⟩ : ∃ o, os[i]? = some o := ⟨_, List.getElem?_eq_getElem hlt⟩
      have hom := List.mem_of_getElem? ho
      have hf := hfew o hom
      have hf1 := hf.fn
      have hf2 := hf.tb
      have hf3 := hf.ex
      have hn1 : IntKind.wrap .i64 ((i : Int) + 1) = i + 1 := wrap_i64 (by omega) (by omega)
      have hC1 : C (i + 1) = C i + glob1 o.fn := by rw [hC, hC, List.take_add_one, ho]; exact globs1_snoc _ _
      have hCl : C i < 1099511627776 := by
        have h1 := globs1_take os i
        have h2 := hB.cnt
        have h3 := hB.few
        rw [hC]
        omega
      have hCl1 : C (i + 1) ≤ 1099511627776 := by
        have h1 := globs1_take os (i + 1)
        have h2 := hB.cnt
        have h3 := hB.few
        rw [hC]
        omega
      simp [F322_spindlelaw15_NamesBind_b0, hlen, hlt]
      generalize hL : cden pr (.loop _ _ F322_spindlelaw15_NamesBind_b1) _ _ = q
      obtain ⟨e, e1, g0, g3, g6, g7⟩ := loopB1 (pr := pr) (st := st) hu ho (by omega) (a3 := .ptr 0 0) (c := C i) (E := [(0, u), (3, .ptr 0 0), (6, .d (.i .i64 ((C i : Nat) : Int))), (7, .d (.i .i64 i)), (8, .d (.i .i64 0))]) hCl (by omega) rfl
      rw [e1] at hL
      subst hL
      rw [← hC1] at g6
      simp [g0, g3, g6, g7]
      generalize hL : cden pr (.loop _ _ F322_spindlelaw15_NamesBind_b2) _ _ = q
      obtain ⟨e, e1, k0, k3, k6, k7⟩ := loopB2 (pr := pr) (st := st) hu ho (by omega) hq (a6 := .d (.i .i64 ((C (i + 1) : Nat) : Int))) (E := [(0, u), (3, .ptr 0 0), (6, .d (.i .i64 ((C (i + 1) : Nat) : Int))), (7, .d (.i .i64 i)), (9, .d (.i .i64 0))]) hr0 (Nat.le_of_lt hB.few) (by omega) (hB.bnd o hom) rfl
      rw [e1] at hL
      subst hL
      simp [k0, k3, k6, k7]
      generalize hL : cden pr (.loop _ _ F322_spindlelaw15_NamesBind_b3) _ _ = q
      obtain ⟨e, e1, j0, j3, j6, j7⟩ := loopB3 (pr := pr) (st := st) hu ho (by omega) hq (a6 := .d (.i .i64 ((C (i + 1) : Nat) : Int))) (E := [(0, u), (3, .ptr 0 0), (6, .d (.i .i64 ((C (i + 1) : Nat) : Int))), (7, .d (.i .i64 i)), (10, .d (.i .i64 0))]) hr0 hB.few2 (by omega) (hB.shp o hom) rfl
      rw [e1] at hL
      subst hL
      simp [j0, j3, j6, j7, hn1, hlt]
    · obtain rfl : i = os.length := by omega
      simp [F322_spindlelaw15_NamesBind_b0, hlen]
      rw [hC, List.take_of_length_le (Nat.le_refl _)]
  exact ⟨e, hr, hQ⟩
end
section
variable {pr : Prog} {os : List ObS} {u : V} (hu : SlD 5 u (os.map ObS.cells)) (hn : os.length ≤ 1099511627775) (hfew : ∀ o ∈ os, o.few) {F : List Bnd} {Tb : List TbS} {b1 : Bool} {w : V} (hB : BindOk os F Tb) {E : Env} {a6 : V} (h6 : ∀ s a b, esc1 s a b a6 = some a6)
include hu hn hfew hB h6
theorem loopB4 (hE : mask [0, 3, 6, 11] E = [(0, u), (3, .ptr 0 0), (6, a6), (11, .d (.i .i64 0))]) :
    ∃ e, cden pr (.loop [0, 3, 6, 11] true F322_spindlelaw15_NamesBind_b4) E (s0 [.row [dsl Bnd.cells b1 F, w]] [] 0 0) = some (.exit 8, e, s0 [.row [dsl Bnd.cells b1 F, w]] [] 0 0) ∧ e.get 0 = some u ∧ e.get 3 = some (.ptr 0 0) ∧ e.get 6 = some a6 := by
  have hlen := hu.len
  rw [List.length_map] at hlen
  have hv := dsl_d Bnd.c3 b1 F
  have hvlen := hv.len
  rw [List.length_map] at hvlen
  obtain ⟨v, hvv⟩ : ∃ v, v = dsl Bnd.cells b1 F := ⟨_, rfl⟩
  rw [← hvv] at hv hvlen ⊢
  clear hvv
  have hFl := hB.few
  obtain ⟨r, hr, e, rfl, hQ⟩ : ∃ r, cden pr (.loop [0, 3, 6, 11] true F322_spindlelaw15_NamesBind_b4) E (s0 [.row [v, w]] [] 0 0) = some r ∧ ∃ e, r = (.exit 8, e, s0 [.row [v, w]] [] 0 0) ∧ e.get 0 = some u ∧ e.get 3 = some (.ptr 0 0) ∧ e.get 6 = some a6 := by
    refine loop_n F.length (fun i => [(0, u), (3, .ptr 0 0), (6, a6), (11, .d (.i .i64 (i : Nat)))]) (fun _ => s0 [.row [v, w]] [] 0 0) ?_ (by rw [hE]; simp) rfl
    intro i hi
    rcases Nat.lt_or_ge i F.length with hlt | hge
    · obtain ⟨b, hb⟩ : ∃ b, F[i]? = some b := ⟨_, List.getElem?_eq_getElem hlt⟩
      obtain ⟨k, j, o, f, hbk, hbj, hok, hfj, hnm, hgl⟩ := hB.rng b (List.mem_of_getElem? hb)
      have hklt := (List.getElem?_eq_some_iff.1 hok).1
      have hjlt := (List.getElem?_eq_some_iff.1 hfj).1
      have hof := (hfew o (List.mem_of_getElem? hok)).fn
      have hn1 : IntKind.wrap .i64 ((i : Int) + 1) = i + 1 := wrap_i64 (by omega) (by omega)
      have hia := hv.iaddr (i := (i : Int)) (k := .i64) (by omega) (by simp; exact hlt)
      simp only [Int.toNat_natCast] at hia
      have hld : ∀ st, loadV 3 true st (elP 3 v i 0) = some (.agg [.d (.s b.nm), .d (.i .i64 k), .d (.i .i64 j)]) := fun st => by
        rw [hv.load (el := b.cells) (by simp [hb]) (by omega) (by omega), ← hbk, ← hbj]
        rfl
      have hiak := hu.iaddr (i := (k : Int)) (k := .i64) (by omega) (by simp; exact hklt)
      simp only [Int.toNat_natCast] at hiak
      have hfa := hu.faddr (i := k) (o := 0) (off := 1)
      simp only [Nat.zero_add] at hfa
      have hldk : ∀ st, loadV 1 false st (elP 5 u k 1) = some (dsl FnS.cells o.n2 o.fn) := fun st => by
        rw [hu.load (el := o.cells) (by simp [hok]) (by omega) (by omega)]
        rfl
      have hx := dsl_d FnS.c4 o.n2 o.fn
      have hxlen := hx.len
      rw [List.length_map] at hxlen
      obtain ⟨x, hxx⟩ : ∃ x, x = dsl FnS.cells o.n2 o.fn := ⟨_, rfl⟩
      rw [← hxx] at hx hxlen hldk
      clear hxx
      have hiaj := hx.iaddr (i := (j : Int)) (k := .i64) (by omega) (by simp; exact hjlt)
      simp only [Int.toNat_natCast] at hiaj
      have hldj : ∀ st, loadV 4 true st (elP 4 x j 0) = some (.agg [.d (.s b.nm), .d (.b true), .d (.i .i64 f.fi), .d (.i .i64 f.co)]) := fun st => by
        have hfc : f.cells = [.s b.nm, .b true, .i .i64 f.fi, .i .i64 f.co] := by rw [FnS.cells, hnm, hgl]
        rw [hx.load (el := f.cells) (by simp [hfj]) (by omega) (by omega), hfc]
        rfl
      have z1 : ¬ ((k : Int) < 0) := by omega
      have z2 : ¬ ((os.length : Int) ≤ k) := by omega
      have z2' : ¬ (os.length ≤ k) := by omega
      have z3 : ¬ ((j : Int) < 0) := by omega
      have z4 : ¬ ((o.fn.length : Int) ≤ j) := by omega
      have z4' : ¬ (o.fn.length ≤ j) := by omega
      cases i with
      | zero =>
        have hw1 : IntKind.wrap .i64 1 = 1 := by decide
        have hlt0 : (0 : Int) < F.length := by omega
        simp only [Int.natCast_zero, Int.ofNat_zero] at hia
        simp [F322_spindlelaw15_NamesBind_b4, hvlen, hlt, hlt0, hia, hld, lay, ofDs, z1, z2, z2', z3, z4, z4', hlen, hiak, hfa, hldk, hxlen, hiaj, hldj, hw1, h6, hu.esc]
      | succ p =>
        obtain ⟨a, ha⟩ : ∃ a, F[p]? = some a := ⟨_, List.getElem?_eq_getElem (by omega)⟩
        have hris := hB.ris p a b ha hb
        have hwp : IntKind.wrap .i64 (p : Int) = p := wrap_i64 (by omega) (by omega)
        have hiap := hv.iaddr (i := (p : Int)) (k := .i64) (by omega) (by simp; omega)
        simp only [Int.toNat_natCast] at hiap
        have hfap := hv.faddr (i := p) (o := 0) (off := 0)
        have hldp : ∀ st, loadV 1 false st (elP 3 v p 0) = some (.d (.s a.nm)) := fun st => by
          rw [hv.load (el := a.cells) (by simp [ha]) (by omega) (by omega)]
          rfl
        have hpos : (0 : Int) < (p : Int) + 1 := by omega
        have hlt' : (p : Int) + 1 < F.length := by omega
        have hia' : iaddrV 3 v (.d (.i .i64 ((p : Int) + 1))) = some (elP 3 v (p + 1) 0) := by
          rw [← hia]
          simp
        have hn1' : IntKind.wrap .i64 ((p : Int) + 1 + 1) = (p : Int) + 1 + 1 := wrap_i64 (by omega) (by omega)
        simp [F322_spindlelaw15_NamesBind_b4, hvlen, hlt, hlt', hia', hld, lay, ofDs, z1, z2, z2', z3, z4, z4', hlen, hiak, hfa, hldk, hxlen, hiaj, hldj, hwp, hiap, hfap, hldp, hpos, hris, hn1', h6, hu.esc]
    · obtain rfl : i = F.length := by omega
      simp [F322_spindlelaw15_NamesBind_b4, hvlen, h6, hu.esc]
  exact ⟨e, hr, hQ⟩
end
section
variable {pr : Prog} (hq : Sub nbFns pr) (hn : Sub nmFns pr) (hp : Sub objFns pr) (hc : Sub slFns pr) (hI : IsaOk pr) (hf : pr.fn 333 = none) (hg : pr.prim 333 = some (pSortedS 345)) (hA : AwkOk pr) {st : St}
include hq hn hp hc hI hf hg hA
theorem den_NamesBind {v : V} {os : List ObS} (hv : SlC 5 v (os.map ObS.cells)) (hn1 : os.length * 120 ≤ 140737488355328) (hok : ∀ o ∈ os, o.ok) (hs : ∀ o ∈ os, ∀ s ∈ namesO o, s.length ≤ 9223372036854775807)
    (h0 : ∀ F Tb nm e, mrgR (chkF pr) (os.map ObS.cp) = (F, Tb, nm, e) → e ≠ 0 → F = [] ∧ Tb = []) (h1 : ∀ F Tb nm, mrgR (chkF pr) (os.map ObS.cp) = (F, Tb, nm, 0) → (∀ o ∈ os, o.few) → BindOk os F Tb) :
    den pr 322 [v] st = some (.d (.b true), st) := by
  obtain ⟨u, hcl, hu⟩ := hv.close
  refine den_shut (hq.at 12 rfl) rfl rfl (by simp [hcl]; rfl) ?_
  have hck : ∀ o ∈ os.map ObS.cp, ChkOk pr (chkF pr) o := fun o ho => by
    obtain ⟨o', ho', rfl⟩ := List.mem_map.1 ho
    have := hok o' ho'
    exact chkOk hp hc hI _ ⟨this.tx, this.fn, this.tb, this.ex, this.rl⟩ (hs o' ho')
  have haw := fun st => den_awake15 hq hn hp hc hI hf hg hA (st := st)
  have hcp := fun st => den_cpObjs hq (st := st) hu.c hn1 hok
  have hm := fun st => den_Merge hn (st := st) hf hg (dsl_c ObS.c5 (decide (0 < os.length)) (os.map ObS.cp)) (by simp; omega) hck
  obtain ⟨F, Tb, nm, e, hr⟩ : ∃ F Tb nm e, mrgR (chkF pr) (os.map ObS.cp) = (F, Tb, nm, e) := ⟨_, _, _, _, rfl⟩
  rw [hr] at hm
  generalize dsl ObS.cells (decide (0 < os.length)) (os.map ObS.cp) = w at hcp hm
  have hnum := fun x st => den_num15 hq (st := st) x
  by_cases he : e = 0
  · subst he
    have hall : os.length ≤ 64 ∧ ∀ o ∈ os, o.few := by
      unfold mrgR at hr
      split at hr
      · simp at hr
      · rename_i h64
        split at hr
        · rename_i hal
          refine ⟨by simpa using h64, fun o ho => ?_⟩
          have := (hck o.cp (List.mem_map_of_mem ho)).f (List.all_eq_true.1 hal _ (List.mem_map_of_mem ho))
          exact ⟨this.fn, this.tb, this.ex⟩
        · simp at hr
    have hB := h1 F Tb nm hr hall.2
    simp [F322_spindlelaw15_NamesBind, haw, hcp, hm, mrgV, lay, ofDs, hnum]
    generalize hL : cden pr (.loop _ _ F322_spindlelaw15_NamesBind_b0) _ _ = q
    obtain ⟨e, e1, g0, g3, g6⟩ := loopB0 hq (st := s0 [.row [dsl Bnd.cells (decide (0 < F.length)) F, dsl TbS.cells (decide (0 < Tb.length)) Tb]] [] 0 0) hu (by omega) hall.2 hB (b1 := decide (0 < F.length)) (b2 := decide (0 < Tb.length)) (by simp) (E := [(0, u), (3, .ptr 0 0), (6, .d (.i .i64 0)), (7, .d (.i .i64 0))]) rfl
    rw [e1] at hL
    subst hL
    simp [g0, g3, g6]
    generalize hL : cden pr (.loop _ _ F322_spindlelaw15_NamesBind_b4) _ _ = q
    obtain ⟨e, e1, k0, k3, k6⟩ := loopB4 (pr := pr) hu (by omega) hall.2 hB (b1 := decide (0 < F.length)) (w := dsl TbS.cells (decide (0 < Tb.length)) Tb) (a6 := .d (.i .i64 (globs1 os : Nat))) (fun _ _ _ => rfl) (E := [(0, u), (3, .ptr 0 0), (6, .d (.i .i64 (globs1 os : Nat))), (11, .d (.i .i64 0))]) rfl
    rw [e1] at hL
    subst hL
    simp [k0, k3, k6, hB.cnt]
  · obtain ⟨rfl, rfl⟩ := h0 F Tb nm e hr he
    simp [F322_spindlelaw15_NamesBind, haw, hcp, hm, mrgV, lay, ofDs, hnum, he]
end
end Go.Sh
