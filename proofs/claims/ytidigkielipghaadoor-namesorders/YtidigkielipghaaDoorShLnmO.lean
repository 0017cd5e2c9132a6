/- NamesBind on shadow runs: the loops over the objects. -/
import Derived.Test.YtidigkielipghaaDoorShLnmN
set_option linter.unusedVariables false
set_option linter.unusedSimpArgs false
set_option linter.unusedSectionVars false
namespace Go.Sh
theorem glob1_snoc (l : List FnS) (f : FnS) : glob1 (l ++ [f]) = glob1 l + if f.gl = true then 1 else 0 := by
  unfold glob1
  rw [List.filter_append, List.length_append]
  cases h : f.gl <;> simp [h]
theorem glob1_le (l : List FnS) : glob1 l ≤ l.length := List.length_filter_le _ _
section
variable {pr : Prog} {st : St} {os : List ObS} {u : V} (hu : SlD 5 u (os.map ObS.cells)) {i : Nat} {o : ObS} (ho : os[i]? = some o) (hil : i < 1099511627776) {a3 : V} {E : Env}
include hu ho hil
theorem loopB1 {c : Nat} (hc : c < 1099511627776) (hl : o.fn.length < 1099511627776) (hE : mask [0, 3, 6, 7, 8] E = [(0, u), (3, a3), (6, .d (.i .i64 c)), (7, .d (.i .i64 i)), (8, .d (.i .i64 0))]) :
    ∃ e, cden pr (.loop [0, 3, 6, 7, 8] false F322_spindlelaw15_NamesBind_b1) E st = some (.exit 2, e, st) ∧ e.get 0 = some u ∧ e.get 3 = some a3 ∧ e.get 6 = some (.d (.i .i64 ((c + glob1 o.fn : Nat) : Int))) ∧ e.get 7 = some (.d (.i .i64 i)) := by
  have hia := hu.iaddr (i := (i : Int)) (k := .i64) (by omega) (by simp; exact (List.getElem?_eq_some_iff.1 ho).1)
  simp only [Int.toNat_natCast] at hia
  have hfa := hu.faddr (i := i) (o := 0) (off := 1)
  simp only [Nat.zero_add] at hfa
  have hld : ∀ st, loadV 1 false st (elP 5 u i 1) = some (dsl FnS.cells o.n2 o.fn) := fun st => by
    rw [hu.load (el := o.cells) (by simp [ho]) (by omega) (by omega)]
    rfl
  have hv := dsl_d FnS.c4 o.n2 o.fn
  have hlen := hv.len
  rw [List.length_map] at hlen
  obtain ⟨v, hvv⟩ : ∃ v, v = dsl FnS.cells o.n2 o.fn := ⟨_, rfl⟩
  rw [← hvv] at hv hlen hld
  obtain ⟨r, hr, e, rfl, hQ⟩ : ∃ r, cden pr (.loop [0, 3, 6, 7, 8] false F322_spindlelaw15_NamesBind_b1) E st = some r ∧ ∃ e, r = (.exit 2, e, st) ∧ e.get 0 = some u ∧ e.get 3 = some a3 ∧ e.get 6 = some (.d (.i .i64 ((c + glob1 o.fn : Nat) : Int))) ∧ e.get 7 = some (.d (.i .i64 i)) := by
    obtain ⟨J, hJ⟩ : ∃ J : Nat → Env → St → Prop, ∀ m e t, J m e t ↔ ∃ j c', m = o.fn.length - j ∧ j ≤ o.fn.length ∧ c' = c + glob1 (o.fn.take j) ∧ e = [(0, u), (3, a3), (6, .d (.i .i64 ((c' : Nat) : Int))), (7, .d (.i .i64 i)), (8, .d (.i .i64 (j : Nat)))] ∧ t = st := ⟨_, fun _ _ _ => Iff.rfl⟩
    refine loop_j J ?_ (n := o.fn.length) ((hJ _ _ _).2 ⟨0, c, by omega, by omega, by simp [glob1], by rw [hE]; simp, rfl⟩)
    intro m e t hh
    obtain ⟨j, c', rfl, hj, hc', rfl, rfl⟩ := (hJ _ _ _).1 hh
    rcases Nat.lt_or_ge j o.fn.length with hlt | hge
    · obtain ⟨x, hx⟩ : ∃ x, o.fn[j]? = some x := ⟨_, List.getElem?_eq_getElem hlt⟩
      have hg := glob1_le (o.fn.take j)
      rw [List.length_take] at hg
      have hg2 : glob1 (o.fn.take (j + 1)) = glob1 (o.fn.take j) + if x.gl = true then 1 else 0 := by rw [List.take_add_one, hx]; exact glob1_snoc _ _
      have hn1 : IntKind.wrap .i64 ((j : Int) + 1) = j + 1 := wrap_i64 (by omega) (by omega)
      have hn2 : IntKind.wrap .i64 ((c' : Int) + 1) = c' + 1 := wrap_i64 (by omega) (by omega)
      have hia2 := hv.iaddr (i := (j : Int)) (k := .i64) (by omega) (by simp; exact hlt)
      simp only [Int.toNat_natCast] at hia2
      have hfa2 := hv.faddr (i := j) (o := 0) (off := 1)
      simp only [Nat.zero_add] at hfa2
      have hld2 : ∀ st, loadV 1 false st (elP 4 v j 1) = some (.d (.b x.gl)) := fun st => by
        rw [hv.load (el := x.cells) (by simp [hx]) (by omega) (by omega)]
        rfl
      cases hgl : x.gl
      · rw [hgl] at hld2 hg2
        simp at hg2
        simp [F322_spindlelaw15_NamesBind_b1, hia, hfa, hld, hlen, hlt, hia2, hfa2, hld2, hn1]
        exact ⟨o.fn.length - (j + 1), by omega, (hJ _ _ _).2 ⟨j + 1, c', rfl, hlt, by omega, by simp, rfl⟩⟩
      · rw [hgl] at hld2 hg2
        simp at hg2
        simp [F322_spindlelaw15_NamesBind_b1, hia, hfa, hld, hlen, hlt, hia2, hfa2, hld2, hn1, hn2]
        exact ⟨o.fn.length - (j + 1), by omega, (hJ _ _ _).2 ⟨j + 1, c' + 1, rfl, hlt, by omega, by simp, rfl⟩⟩
    · obtain rfl : j = o.fn.length := by omega
      rw [List.take_of_length_le (Nat.le_refl _)] at hc'
      simp [F322_spindlelaw15_NamesBind_b1, hia, hfa, hld, hlen, hc']
  exact ⟨e, hr, hQ⟩
theorem loopB2 (hq : Sub nbFns pr) {a6 : V} {F : List Bnd} {Tb : List TbS} {b1 b2 : Bool} (hr0 : st.row 0 = some [dsl Bnd.cells b1 F, dsl TbS.cells b2 Tb]) (hF : F.length ≤ 1099511627776) (hl : o.ex.length < 1099511627776) (hb : ∀ n ∈ o.ex, ∃ b ∈ F, b.nm = n)
    (hE : mask [0, 3, 6, 7, 9] E = [(0, u), (3, .ptr 0 0), (6, a6), (7, .d (.i .i64 i)), (9, .d (.i .i64 0))]) :
    ∃ e, cden pr (.loop [0, 3, 6, 7, 9] false F322_spindlelaw15_NamesBind_b2) E st = some (.exit 4, e, st) ∧ e.get 0 = some u ∧ e.get 3 = some (.ptr 0 0) ∧ e.get 6 = some a6 ∧ e.get 7 = some (.d (.i .i64 i)) := by
  have hia := hu.iaddr (i := (i : Int)) (k := .i64) (by omega) (by simp; exact (List.getElem?_eq_some_iff.1 ho).1)
  simp only [Int.toNat_natCast] at hia
  have hfa := hu.faddr (i := i) (o := 0) (off := 3)
  simp only [Nat.zero_add] at hfa
  have hld : ∀ st, loadV 1 false st (elP 5 u i 3) = some (dsl txC o.n4 o.ex) := fun st => by
    rw [hu.load (el := o.cells) (by simp [ho]) (by omega) (by omega)]
    rfl
  have hv := dsl_d txC1 o.n4 o.ex
  have hlen := hv.len
  rw [List.length_map] at hlen
  obtain ⟨v, hvv⟩ : ∃ v, v = dsl txC o.n4 o.ex := ⟨_, rfl⟩
  rw [← hvv] at hv hlen hld
  obtain ⟨r, hr, e, rfl, hQ⟩ : ∃ r, cden pr (.loop [0, 3, 6, 7, 9] false F322_spindlelaw15_NamesBind_b2) E st = some r ∧ ∃ e, r = (.exit 4, e, st) ∧ e.get 0 = some u ∧ e.get 3 = some (.ptr 0 0) ∧ e.get 6 = some a6 ∧ e.get 7 = some (.d (.i .i64 i)) := by
    refine loop_n o.ex.length (fun j => [(0, u), (3, .ptr 0 0), (6, a6), (7, .d (.i .i64 i)), (9, .d (.i .i64 (j : Nat)))]) (fun _ => st) ?_ (by rw [hE]; simp) rfl
    intro j hj
    rcases Nat.lt_or_ge j o.ex.length with hlt | hge
    · obtain ⟨x, hx⟩ : ∃ x, o.ex[j]? = some x := ⟨_, List.getElem?_eq_getElem hlt⟩
      have hn1 : IntKind.wrap .i64 ((j : Int) + 1) = j + 1 := wrap_i64 (by omega) (by omega)
      have hia2 := hv.iaddr (i := (j : Int)) (k := .i64) (by omega) (by simp; exact hlt)
      simp only [Int.toNat_natCast] at hia2
      have hld2 : ∀ st, loadV 1 false st (elP 1 v j 0) = some (.d (.s x)) := fun st => by
        rw [hv.load (el := txC x) (by simp [hx]) (by omega) (by omega)]
        rfl
      have hbd := den_bound hq (st := st) (nz := b1) (w := dsl TbS.cells b2 Tb) hF rfl (hb x (List.mem_of_getElem? hx))
      simp [F322_spindlelaw15_NamesBind_b2, hia, hfa, hld, hlen, hlt, hia2, hld2, hn1, hr0, hbd]
    · obtain rfl : j = o.ex.length := by omega
      simp [F322_spindlelaw15_NamesBind_b2, hia, hfa, hld, hlen]
  exact ⟨e, hr, hQ⟩
theorem loopB3 (hq : Sub nbFns pr) {a6 : V} {F : List Bnd} {Tb : List TbS} {b1 b2 : Bool} (hr0 : st.row 0 = some [dsl Bnd.cells b1 F, dsl TbS.cells b2 Tb]) (hF : Tb.length ≤ 1099511627776) (hl : o.tb.length < 1099511627776) (hb : ∀ t ∈ o.tb, t ∈ Tb)
    (hE : mask [0, 3, 6, 7, 10] E = [(0, u), (3, .ptr 0 0), (6, a6), (7, .d (.i .i64 i)), (10, .d (.i .i64 0))]) :
    ∃ e, cden pr (.loop [0, 3, 6, 7, 10] false F322_spindlelaw15_NamesBind_b3) E st = some (.exit 6, e, st) ∧ e.get 0 = some u ∧ e.get 3 = some (.ptr 0 0) ∧ e.get 6 = some a6 ∧ e.get 7 = some (.d (.i .i64 i)) := by
  have hia := hu.iaddr (i := (i : Int)) (k := .i64) (by omega) (by simp; exact (List.getElem?_eq_some_iff.1 ho).1)
  simp only [Int.toNat_natCast] at hia
  have hfa := hu.faddr (i := i) (o := 0) (off := 2)
  simp only [Nat.zero_add] at hfa
  have hld : ∀ st, loadV 1 false st (elP 5 u i 2) = some (dsl TbS.cells o.n3 o.tb) := fun st => by
    rw [hu.load (el := o.cells) (by simp [ho]) (by omega) (by omega)]
    rfl
  have hv := dsl_d TbS.c5 o.n3 o.tb
  have hlen := hv.len
  rw [List.length_map] at hlen
  obtain ⟨v, hvv⟩ : ∃ v, v = dsl TbS.cells o.n3 o.tb := ⟨_, rfl⟩
  rw [← hvv] at hv hlen hld
  obtain ⟨r, hr, e, rfl, hQ⟩ : ∃ r, cden pr (.loop [0, 3, 6, 7, 10] false F322_spindlelaw15_NamesBind_b3) E st = some r ∧ ∃ e, r = (.exit 6, e, st) ∧ e.get 0 = some u ∧ e.get 3 = some (.ptr 0 0) ∧ e.get 6 = some a6 ∧ e.get 7 = some (.d (.i .i64 i)) := by
    refine loop_n o.tb.length (fun j => [(0, u), (3, .ptr 0 0), (6, a6), (7, .d (.i .i64 i)), (10, .d (.i .i64 (j : Nat)))]) (fun _ => st) ?_ (by rw [hE]; simp) rfl
    intro j hj
    rcases Nat.lt_or_ge j o.tb.length with hlt | hge
    · obtain ⟨x, hx⟩ : ∃ x, o.tb[j]? = some x := ⟨_, List.getElem?_eq_getElem hlt⟩
      have hn1 : IntKind.wrap .i64 ((j : Int) + 1) = j + 1 := wrap_i64 (by omega) (by omega)
      have hia2 := hv.iaddr (i := (j : Int)) (k := .i64) (by omega) (by simp; exact hlt)
      simp only [Int.toNat_natCast] at hia2
      have hld2 : ∀ st, loadV 5 true st (elP 5 v j 0) = some (.agg (ofDs x.cells)) := fun st => by
        rw [hv.load (el := x.cells) (by simp [hx]) (by omega) (by omega)]
        rfl
      have hbd := den_shaped hq (st := st) (nz := b2) (w := dsl Bnd.cells b1 F) hF rfl (hb x (List.mem_of_getElem? hx))
      generalize ofDs x.cells = xc at hld2 hbd
      simp [F322_spindlelaw15_NamesBind_b3, hia, hfa, hld, hlen, hlt, hia2, hld2, hn1, hr0, hbd]
    · obtain rfl : j = o.tb.length := by omega
      simp [F322_spindlelaw15_NamesBind_b3, hia, hfa, hld, hlen]
  exact ⟨e, hr, hQ⟩
end
end Go.Sh
