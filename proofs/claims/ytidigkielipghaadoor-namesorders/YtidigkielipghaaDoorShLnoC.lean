/- NamesOrders on shadow runs. -/
import Derived.Test.YtidigkielipghaaDoorShLnoA
import Derived.Test.YtidigkielipghaaDoorShLnoB
set_option linter.unusedVariables false
set_option linter.unusedSimpArgs false
set_option linter.unusedSectionVars false
namespace Go.Sh
theorem upI_nat {l : List Int} {c : Nat} (h : l.Perm (upI c)) : ∃ q : List Nat, q.Perm (List.range c) ∧ l = q.map fun k : Nat => (k : Int) := by
  refine ⟨l.map Int.toNat, ?_, ?_⟩
  · have := h.map Int.toNat
    have e : (upI c).map Int.toNat = List.range c := by
      unfold upI
      rw [List.map_map]
      exact List.map_id'' (fun _ => rfl) _
    rwa [e] at this
  · rw [List.map_map]
    have : l.map ((fun k : Nat => (k : Int)) ∘ Int.toNat) = l.map id := List.map_congr_left fun x hx => by
      have := h.mem_iff.1 hx
      unfold upI at this
      obtain ⟨k, _, rfl⟩ := List.mem_map.1 this
      rfl
    rw [this, List.map_id]
section
variable {pr : Prog} (hp : Sub noFns pr) {st : St}
include hp
theorem den_sameT {T : List TbS} {a b : Bool} (hl : T.length ≤ 1099511627776) : den pr 321 [dsl TbS.cells a T, dsl TbS.cells b T] st = some (.d (.b true), st) := by
  refine den_shut (hp.at 2 rfl) rfl rfl (by simp; rfl) ?_
  have hu := dsl_d TbS.c5 a T
  have hv := dsl_d TbS.c5 b T
  have hlen := hu.len
  have hlen' := hv.len
  rw [List.length_map] at hlen hlen'
  generalize dsl TbS.cells a T = u at hu hlen ⊢
  generalize dsl TbS.cells b T = v at hv hlen' ⊢
  simp [F321_spindlelaw0_SameTables, hlen, hlen']
  generalize hL : cden pr (.loop _ _ _) _ _ = q
  obtain ⟨r, rfl, e, s, rfl⟩ : ∃ r, q = some r ∧ ∃ e s, r = (.exit 0, e, s) := by
    rw [← hL]
    clear hL
    refine loop_n T.length (fun i => [(0, u), (1, v), (5, .d (.i .i64 (i : Nat)))]) (fun _ => s0 [] [] 0 0) ?_ (by simp) (by simp)
    intro i hi
    rcases Nat.lt_or_ge i T.length with hlt | hge
    · obtain ⟨x, hx⟩ : ∃ x, T[i]? = some x := ⟨_, List.getElem?_eq_getElem hlt⟩
      have hn1 : IntKind.wrap .i64 ((i : Int) + 1) = i + 1 := wrap_i64 (by omega) (by omega)
      have hia := hu.iaddr (i := (i : Int)) (k := .i64) (by omega) (by simp; omega)
      have hib := hv.iaddr (i := (i : Int)) (k := .i64) (by omega) (by simp; omega)
      simp only [Int.toNat_natCast] at hia hib
      have hld : ∀ st, loadV 5 true st (elP 5 u i 0) = some (.agg (ofDs x.cells)) := fun st => by
        rw [hu.load (el := x.cells) (by simp [hx]) (by omega) (by omega)]
        rfl
      have hle : ∀ st, loadV 5 true st (elP 5 v i 0) = some (.agg (ofDs x.cells)) := fun st => by
        rw [hv.load (el := x.cells) (by simp [hx]) (by omega) (by omega)]
        rfl
      have heq := eqV_tab x x
      generalize ofDs x.cells = xc at hld hle heq
      simp at heq
      simp [F321_spindlelaw0_SameTables_b0, hlen, hlt, hia, hib, hld, hle, heq, hn1]
    · obtain rfl : i = T.length := by omega
      simp [F321_spindlelaw0_SameTables_b0, hlen]
  simp
end
theorem Grw.c {α : Type} {c : α → List D} {sz : Nat} (hc : ∀ x, (c x).length = sz) {l : List α} {t : Option Nat} {v : V} {s : St} (h : Grw c sz l t v s) : SlC sz v (l.map c) := by
  cases t with
  | none => obtain ⟨rfl, rfl⟩ := h; exact .of_sl (by simp) rfl rfl
  | some t => obtain ⟨rfl, _⟩ := h; exact own_c hc rfl
theorem cp_range (os : List ObS) (d : ObS) : os.map ObS.cp = (List.range os.length).map fun k => (os.getD k d).cp := by
  apply List.ext_getElem?
  intro k
  rw [List.getElem?_map, List.getElem?_map]
  by_cases h : k < os.length
  · simp [h, List.getD_eq_getElem?_getD]
  · simp [h]
theorem mrg_few {pr : Prog} {os : List ObS} (hck : ∀ o ∈ os.map ObS.cp, ChkOk pr (chkF pr) o) {F : List Bnd} {Tb : List TbS} {nm : Byt8} {e : Int} (hr : mrgR (chkF pr) (os.map ObS.cp) = (F, Tb, nm, e)) : F.length ≤ 1099511627776 ∧ Tb.length ≤ 1099511627776 := by
  by_cases he : e = 0
  · subst he
    have hall : ∀ o ∈ os, o.few := by
      unfold mrgR at hr
      split at hr
      · simp at hr
      · split at hr
        · rename_i hal
          intro o ho
          have := (hck o.cp (List.mem_map_of_mem ho)).f (List.all_eq_true.1 hal _ (List.mem_map_of_mem ho))
          exact ⟨this.fn, this.tb, this.ex⟩
        · simp at hr
    have hB := bindOk hr hall
    exact ⟨Nat.le_of_lt hB.few, hB.few2⟩
  · obtain ⟨rfl, rfl⟩ := mrgR_err hr he
    exact ⟨Nat.zero_le _, Nat.zero_le _⟩
theorem esc_keep {h0 : Nat} {v : V} (hv : (∃ d, v = .d d) ∨ ∃ id n cap, v = .rsl 1 id 0 n cap ∧ id < h0) {st : St} {t : Nat} {h : Nat} (hh : h0 ≤ h) : esc1 st h t v = some v := by
  rcases hv with ⟨d, rfl⟩ | ⟨id, n, cap, rfl, hi⟩
  · simp [esc1, escC]
  · have : id < h := by omega
    simp [esc1, escC, this]
theorem SlD.ep {sz : Nat} {v : V} {els : List (List D)} (h : SlD sz v els) (i : Nat) : ∃ cs, elP sz v i 0 = .ep cs := by
  obtain ⟨_, nz, rfl⟩ := h
  exact ⟨_, rfl⟩
/-- The law's last loop. -/
theorem loop_ord {pr : Prog} {H : List (Option Blk)} {T : List Nat} {fl tf : Nat} {v A1 A2 T1 : V} {F F' : List Bnd} {q : List Nat} {r1 r2 : Nat} (h1 : r1 < H.length) (h2 : r2 < H.length) (q1 : (S H T [] [] fl tf).row r1 = some [A1, T1]) (q2 : (S H T [] [] fl tf).row r2 = some [A2, T1])
    (hA1 : SlD 3 A1 (F.map Bnd.cells)) (hA2 : SlD 3 A2 (F'.map Bnd.cells)) (g3 : All2 (OrdR q) F F') (hF : F.length ≤ 1099511627776) (hlv : lenV v = some q.length)
    (hv : (∃ d, v = .d d) ∨ ∃ id n cap, v = .rsl 1 id 0 n cap ∧ id < H.length)
    (hat : ∀ k k' : Nat, q[k]? = some k' → ∃ j0 c, iaddrV 1 v (.d (.i .i64 (k : Int))) = some (.ptr j0 k) ∧ (S H T [] [] fl tf).row j0 = some c ∧ j0 < H.length ∧ k + 1 ≤ c.length ∧ (c.drop k).take 1 = [.d (.i .i64 (k' : Nat))]) :
    ∃ e', cden pr (.loop [5, 8, 11, 14] true F318_spindlelaw15_NamesOrders_b1) [(5, v), (8, .ptr r1 0), (11, .ptr r2 0), (14, .d (.i .i64 0))] (S H T [] [] fl tf) = some (.exit 2, e', S H T [] [] fl tf) := by
  have hfl' := g3.length
  have hl1 := hA1.len
  have hl2 := hA2.len
  rw [List.length_map] at hl1 hl2
  have hrow : ∀ {r c}, r < H.length → (S H T [] [] fl tf).row r = some c → ∀ bs ts f t, (S H T bs ts f t).row r = some c := fun h e bs ts f t => by rw [← e]; exact S_row_old h
  have q1' := hrow h1 q1
  have q2' := hrow h2 q2
  generalize hL : cden pr (.loop _ _ _) _ _ = o
  obtain ⟨r, rfl, e', rfl⟩ : ∃ r, o = some r ∧ ∃ e', r = (.exit 2, e', S H T [] [] fl tf) := by
    rw [← hL]
    clear hL
    refine loop_n F.length (fun i => [(5, v), (8, .ptr r1 0), (11, .ptr r2 0), (14, .d (.i .i64 (i : Nat)))]) (fun _ => S H T [] [] fl tf) ?_ (by simp) rfl
    intro i hi
    rcases Nat.lt_or_ge i F.length with hlt | hge
    · obtain ⟨x, hx⟩ : ∃ x, F[i]? = some x := ⟨_, List.getElem?_eq_getElem hlt⟩
      obtain ⟨y, hy, hxy⟩ := g3.get hx
      obtain ⟨e1, e2, k', k, e3, e4, e5⟩ := hxy
      obtain ⟨j0, c, a1, a2, a3, a4, a5⟩ := hat k' k e4
      have a2' := hrow a3 a2
      have hkl := (List.getElem?_eq_some_iff.1 e4).1
      have hn1 : IntKind.wrap .i64 ((i : Int) + 1) = i + 1 := wrap_i64 (by omega) (by omega)
      have hia := hA1.iaddr (i := (i : Int)) (k := .i64) (by omega) (by simp; omega)
      have hib := hA2.iaddr (i := (i : Int)) (k := .i64) (by omega) (by simp; omega)
      simp only [Int.toNat_natCast] at hia hib
      have hld : ∀ st, loadV 3 true st (elP 3 A1 i 0) = some (.agg (ofDs x.cells)) := fun st => by
        rw [hA1.load (el := x.cells) (by simp [hx]) (by omega) (by omega)]
        rfl
      have hle : ∀ st, loadV 3 true st (elP 3 A2 i 0) = some (.agg (ofDs y.cells)) := fun st => by
        rw [hA2.load (el := y.cells) (by simp [hy]) (by omega) (by omega)]
        rfl
      obtain ⟨xn, xo, xf⟩ := x
      obtain ⟨yn, yo, yf⟩ := y
      simp only at e1 e2 e3 e5
      subst e1 e2 e3 e5
      have hk0 : ¬ (k' : Int) < 0 := by omega
      have hk1 : ¬ (q.length : Int) ≤ (k' : Int) := by omega
      have hk1' : ¬ q.length ≤ k' := by omega
      have hes : ∀ st t h, H.length ≤ h → esc1 st h t v = some v := fun st t h hh => esc_keep hv hh
      obtain ⟨c1, hc1⟩ := hA1.ep i
      obtain ⟨c2, hc2⟩ := hA2.ep i
      rw [hc1] at hia hld
      rw [hc2] at hib hle
      have h2' : ¬ r2 = H.length := by omega
      simp only [Bnd.cells, ofDs, List.map_cons, List.map_nil] at hld hle
      simp [F318_spindlelaw15_NamesOrders_b1, q1', q2', hl1, hl2, hlt, hia, hib, hld, hle, hn1, ofDs, mkV, h2', S_setBlk, S_setBlk0, lay, hk0, hk1, hk1', hlv, a1, a2', a3, a4, a5, hes, escC, h1, h2]
    · obtain rfl : i = F.length := by omega
      simp [F318_spindlelaw15_NamesOrders_b1, q1', hl1]
  exact ⟨e', rfl⟩
def dfO : ObS := ⟨[], [], [], [], [], false, false, false, false, false⟩
def wNO : Nat → Bool := fun f => f == 316
section
variable {pr : Prog} (ho : Sub noFns pr) (hq : Sub nbFns pr) (hn : Sub nmFns pr) (hp : Sub objFns pr) (hc : Sub slFns pr) (hI : IsaOk pr) (hf : pr.fn 333 = none) (hg : pr.prim 333 = some (pSortedS 345)) (hA : AwkOk pr) {st : St}
include ho hq hn hp hc hI hf hg hA
theorem law_NamesOrders {os : List ObS} (nz : Bool) (seed : Int) (hn1 : os.length * 120 ≤ 140737488351232) (hok : ∀ o ∈ os, o.ok) (hs : ∀ o ∈ os, ∀ s ∈ namesO o, s.length ≤ 9223372036854775807) :
    CallW pr 318 [dsl ObS.cells nz os, .d (.i .i64 seed)] st fun v s => s = st ∧ v = .d (.b true) := by
  refine .run0 wNO (ho.at 1 rfl) (by simp; rfl) rfl rfl (codeC_of ?_)
  have haw := fun st => den_awake15 hq hn hp hc hI hf hg hA (st := st)
  have hu := dsl_d ObS.c5 nz os
  have hlen := hu.len
  rw [List.length_map] at hlen
  obtain ⟨u, hU⟩ : ∃ u, u = dsl ObS.cells nz os := ⟨_, rfl⟩
  rw [← hU] at hu hlen ⊢
  have hsh := fun st hf => callW_shuffled ho (st := st) hf os.length seed (by omega)
  simp [F318_spindlelaw15_NamesOrders, wNO, haw, hlen]
  refine (hsh _ ?_).mono ?_
  · rfl
  rintro v s ⟨l, hl, hlp⟩
  obtain ⟨q, hqp, rfl⟩ : ∃ q : List Nat, q.Perm (List.range os.length) ∧ l = q.map fun k : Nat => (k : Int) := upI_nat hlp
  have hql : q.length = os.length := by simpa using hqp.length_eq
  have hqlt : ∀ k ∈ q, k < os.length := fun k hk => by simpa using hqp.mem_iff.1 hk
  obtain ⟨ot, hot⟩ : ∃ ot : List ObS, ot = q.map fun k => (os.getD k dfO).cp := ⟨_, rfl⟩
  have hsf : s.floor = 0 := by obtain ⟨j, _, g, _⟩ := hl; exact g.floor
  have hst : s.tfloor = 0 := by obtain ⟨j, _, _, _, _, g⟩ := hl; exact g
  have hcpy := fun st o ho => den_cpObj hq (st := st) o (hok o ho)
  simp
  obtain ⟨J, hJ⟩ : ∃ J : Nat → Env → St → Prop, ∀ n' e s', J n' e s' ↔ ∃ i w tk, i ≤ q.length ∧ n' = q.length - i ∧ e = [(0, u), (5, v), (6, w), (7, .d (.i .i64 ((i : Nat) : Int)))] ∧ s'.heap = s.heap ∧ s'.floor = 0 ∧ s'.tfloor = 0 ∧ Grw ObS.cells 5 (ot.take i) tk w s' := ⟨_, fun _ _ _ => Iff.rfl⟩
  refine loopW_j wNO J ?_ (n := q.length) ((hJ _ _ _).2 ⟨0, .d (.sl 0 false []), none, Nat.zero_le _, rfl, by simp, rfl, hsf, hst, by simp [Grw]⟩)
  intro n' e s' hh
  obtain ⟨i, w, tk, hi, rfl, rfl, hp1, hp2, hp3, hw⟩ := (hJ _ _ _).1 hh
  have hlv : lenV v = some q.length := by obtain ⟨j, g, _⟩ := hl; rw [g.len]; simp
  rcases Nat.lt_or_ge i q.length with hlt | hge
  · have hqi : q[i]? = some q[i] := List.getElem?_eq_getElem hlt
    have hkl := hqlt _ (List.getElem_mem hlt)
    have hgd : (q.map fun k : Nat => (k : Int)).getD i 0 = (q[i] : Nat) := by simp [List.getD_eq_getElem?_getD, hqi]
    obtain ⟨k, hk⟩ : ∃ k, k = q[i] := ⟨_, rfl⟩
    rw [← hk] at hqi hkl hgd
    obtain ⟨j0, c0, r1, r2, r3, r4, _⟩ := hl.at' rfl (k := i) (by simpa using hlt)
    rw [hgd] at r4
    have r2' : s'.row j0 = some c0 := by unfold St.row at r2 ⊢; rw [hp1]; exact r2
    obtain ⟨o, hoo⟩ : ∃ o, os[k]? = some o := ⟨_, List.getElem?_eq_getElem hkl⟩
    have hia := hu.iaddr (i := (k : Int)) (k := .i64) (by omega) (by simp; exact hkl)
    simp only [Int.toNat_natCast] at hia
    have hld : ∀ st, loadV 5 true st (elP 5 u k 0) = some (.agg o.vs) := fun st => by
      rw [hu.load (el := o.cells) (by simp [hoo]) (by omega) (by omega)]
      rfl
    have hcp := fun st => hcpy st o (List.mem_of_getElem? hoo)
    have hoi : ot[i]? = some o.cp := by rw [hot, List.getElem?_map, hqi]; simp [List.getD_eq_getElem?_getD, hoo]
    have htk : ot.take (i + 1) = ot.take i ++ [o.cp] := by rw [List.take_add_one, hoi]; rfl
    have hol : (ot.take i).length = i := by rw [List.length_take, hot, List.length_map]; omega
    have hvw : vw 5 s' (.d (.sl 1 true o.cp.cells)) = some ([o.cp].length, ([o.cp].map ObS.cells).flatten) := by simp [vw]
    obtain ⟨t', tips', w', e1, e2, _, _, _⟩ := hw.app (by' := 120) ObS.c5 hp3 hvw (by rw [hol]; simp only [List.length_cons, List.length_nil]; omega) (by rw [hol]; simp only [List.length_cons, List.length_nil]; omega)
    rw [← htk] at e2
    obtain ⟨d0, d1, d2, d3, d4, hd, hv⟩ : ∃ d0 d1 d2 d3 d4, o.cp.cells = [d0, d1, d2, d3, d4] ∧ o.cp.vs = [.d d0, .d d1, .d d2, .d d3, .d d4] := ⟨_, _, _, _, _, rfl, rfl⟩
    rw [hv] at hcp
    rw [hd] at e1
    have hn1 : IntKind.wrap .i64 ((i : Int) + 1) = i + 1 := wrap_i64 (by omega) (by omega)
    have hlt' : (i : Int) < q.length := by omega
    obtain ⟨s2, hs2⟩ : ∃ s2 : St, s2 = { s' with tips := tips' } := ⟨_, rfl⟩
    rw [← hs2] at e1 e2
    simp [F318_spindlelaw15_NamesOrders_b0, wNO, hlv, hlt, hlt', r1, r2', r3, r4, mkV, hia, hld, hcp, fillV, lay, ofDs, reps, toDs, toD, e1, hn1]
    exact ⟨q.length - (i + 1), by omega, (hJ _ _ _).2 ⟨i + 1, w', some t', hlt, rfl, by simp, by rw [hs2]; exact hp1, by rw [hs2]; exact hp2, by rw [hs2]; exact hp3, e2⟩⟩
  · obtain rfl : i = q.length := by omega
    have hotl : ot.length = q.length := by rw [hot, List.length_map]
    rw [List.take_of_length_le (by omega)] at hw
    have hwc := hw.c ObS.c5
    have hper : (os.map ObS.cp).Perm ot := by
      rw [cp_range os dfO, hot]
      exact (hqp.map _).symm
    have hrel : ∀ (k' : Nat) o, ot[k']? = some o → ∃ k : Nat, q[k']? = some k ∧ (os.map ObS.cp)[k]? = some o := by
      intro k' o h
      rw [hot, List.getElem?_map] at h
      obtain ⟨k, hk, rfl⟩ := Option.map_eq_some_iff.1 h
      refine ⟨k, hk, ?_⟩
      have := hqlt k (List.mem_of_getElem? hk)
      rw [List.getElem?_map]
      simp [this, List.getD_eq_getElem?_getD]
    have hck : ∀ o ∈ os.map ObS.cp, ChkOk pr (chkF pr) o := fun o ho => by
      obtain ⟨o', ho', rfl⟩ := List.mem_map.1 ho
      have := hok o' ho'
      exact chkOk hp hc hI _ ⟨this.tx, this.fn, this.tb, this.ex, this.rl⟩ (hs o' ho')
    have hcp2 := fun st => den_cpObjs hq (st := st) hu.c (by omega) hok
    have m1 := fun st => den_Merge hn (st := st) hf hg (dsl_c ObS.c5 (decide (0 < os.length)) (os.map ObS.cp)) (by simp; omega) hck
    have m2 := fun st => den_Merge hn (st := st) hf hg hwc (by omega) fun o ho => hck o (hper.mem_iff.2 ho)
    obtain ⟨g1, g2, g3⟩ := mrg_perm (chk := chkF pr) hper hrel
    generalize hR1 : mrgR (chkF pr) (os.map ObS.cp) = R1 at m1 g1 g2 g3
    generalize mrgR (chkF pr) ot = R2 at m2 g1 g2 g3
    obtain ⟨F, Tb, nm, e⟩ := R1
    obtain ⟨F', Tb', nm', e'⟩ := R2
    obtain ⟨few1, few2⟩ := mrg_few hck hR1
    simp only [Prod.mk.injEq] at g1 g2 g3
    obtain ⟨rfl, rfl⟩ := g1
    subst g2
    generalize dsl ObS.cells (decide (0 < os.length)) (os.map ObS.cp) = w1 at hcp2 m1
    have hnum := fun x st => den_num15 hq (st := st) x
    have hfl' := g3.length
    have hA1 := dsl_d Bnd.c3 (decide (0 < F.length)) F
    have hA2 := dsl_d Bnd.c3 (decide (0 < F'.length)) F'
    have hTT := fun st => den_sameT ho (st := st) (T := Tb) (a := decide (0 < Tb.length)) (b := decide (0 < Tb.length)) few2
    have hl1 := hA1.len
    have hl2 := hA2.len
    rw [List.length_map] at hl1 hl2
    simp only [mrgV] at m1 m2
    generalize dsl Bnd.cells (decide (0 < F.length)) F = A1 at hA1 hl1 m1
    generalize dsl Bnd.cells (decide (0 < F'.length)) F' = A2 at hA2 hl2 m2
    generalize dsl TbS.cells (decide (0 < Tb.length)) Tb = T1 at hTT m1 m2
    obtain ⟨s1, hs1⟩ : ∃ s1, s1 = s'.push (.row [A1, T1]) := ⟨_, rfl⟩
    obtain ⟨s2, hs2⟩ : ∃ s2, s2 = s1.push (.row [A2, T1]) := ⟨_, rfl⟩
    have f1 : s1.floor = 0 := by rw [hs1]; exact hp2
    have hset1 : ∀ cs, (s'.push (.row cs)).setBlk s'.heap.length (.row [A1, T1]) = some s1 := fun cs => by rw [setBlk_push rfl (by rw [hp2]; omega), hs1]
    have hrow1 : ∀ cs, (s'.push (.row cs)).row s'.heap.length = some cs := fun cs => row_push_new rfl
    have hset2 : ∀ cs, (s1.push (.row cs)).setBlk s1.heap.length (.row [A2, T1]) = some s2 := fun cs => by rw [setBlk_push rfl (by rw [f1]; omega), hs2]
    have hrow2 : ∀ cs, (s1.push (.row cs)).row s1.heap.length = some cs := fun cs => row_push_new rfl
    have q1 : s2.row s'.heap.length = some [A1, T1] := by rw [hs2, row_old (by rw [hs1]; simp), hs1]; exact row_push_new rfl
    have q2 : s2.row s1.heap.length = some [A2, T1] := by rw [hs2]; exact row_push_new rfl
    have hne : s'.heap.length < s1.heap.length := by rw [hs1]; simp
    simp [F318_spindlelaw15_NamesOrders_b0, wNO, hlv, hcp2, m1, m2, lay, ofDs, hnum, hset1, hrow1, hset2, hrow2, q1, q2, hl1, hl2, hfl', hTT]
    have hvk : (∃ d, v = .d d) ∨ ∃ id n cap, v = .rsl 1 id 0 n cap ∧ id < s2.heap.length := by
      obtain ⟨j, h1, _⟩ := hl
      obtain ⟨_, ⟨_, h2⟩ | ⟨j0, cap, tail, _, h2, _, h3, _⟩⟩ := h1
      · exact .inl ⟨_, h2.1⟩
      · refine .inr ⟨j0, _, cap, h2, ?_⟩
        have := row_lt h3
        rw [hs2, hs1]
        simp [St.push, hp1]
        omega
    have hs2e : s2 = S s2.heap s2.tips [] [] s2.floor s2.tfloor := S_of s2
    have q1r := q1
    have q2r := q2
    rw [hs2e] at q1r q2r
    obtain ⟨e2, hlp2⟩ := loop_ord (pr := pr) (r1 := s'.heap.length) (r2 := s1.heap.length) (H := s2.heap) (T := s2.tips) (by rw [hs2]; simp [St.push]; omega) (by rw [hs2]; simp [St.push]) q1r q2r hA1 hA2 g3 few1 hlv hvk (by
      intro k k' hk
      have hkl : k < q.length := (List.getElem?_eq_some_iff.1 hk).1
      obtain ⟨j0, c0, r1, r2, r3, r4, _⟩ := hl.at' rfl (k := k) (by simpa using hkl)
      refine ⟨j0, c0, r1, ?_, ?_, r3, ?_⟩
      · rw [← hs2e]
        have : j0 < s.heap.length := row_lt r2
        rw [hs2, row_old (by rw [hs1]; simp [St.push, hp1]; omega), hs1, row_old (by rw [hp1]; exact this)]
        unfold St.row at r2 ⊢
        rw [hp1]
        exact r2
      · have : j0 < s.heap.length := row_lt r2
        rw [hs2, hs1]
        simp [St.push, hp1]
        omega
      · rw [r4]
        simp [List.getD_eq_getElem?_getD, hk])
    rw [← hs2e] at hlp2
    refine CodeW.of_cden hlp2 ?_
    simp
end
end Go.Sh
