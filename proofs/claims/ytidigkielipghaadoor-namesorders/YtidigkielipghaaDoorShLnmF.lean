/- names.gathered. -/
import Derived.Test.YtidigkielipghaaDoorShLnmE
set_option linter.unusedVariables false
set_option linter.unusedSimpArgs false
set_option linter.unusedSectionVars false
namespace Go.Sh
/-- No list is longer. -/
def GB (c : Nat) (G : Gth) : Prop := ∀ n, (getN' n G).fs.length ≤ c ∧ (getN' n G).ts.length ≤ c
theorem GB.up {c : Nat} {G : Gth} (h : GB c G) (n : Byt8) (f : Kn → Kn) (hf : ∀ y : Kn, (f y).fs.length ≤ y.fs.length + 1 ∧ (f y).ts.length ≤ y.ts.length + 1) : GB (c + 1) (updN n f G) := fun x => by
  rw [get_upd]
  have h1 := h x
  have h2 := h n
  have h3 := hf (getN' n G)
  split <;> omega
theorem GB.mono {c d : Nat} {G : Gth} (h : GB c G) (hd : c ≤ d) : GB d G := fun x => by
  have := h x
  omega
theorem GB.addF {c k : Nat} {G : Gth} (h : GB c G) (x : FnS × Nat) : GB (c + 1) (addF k G x) := by
  unfold Go.Sh.addF
  split
  · exact h.up _ _ fun y => by simp
  · exact h.mono (by omega)
theorem GB.addT {c : Nat} {G : Gth} (h : GB c G) (x : TbS) : GB (c + 1) (addT G x) := h.up _ _ fun y => by simp
theorem GB.addE {c : Nat} {G : Gth} (h : GB c G) (x : Byt8) : GB (c + 1) (addE G x) := h.up _ _ fun y => by simp
section
variable {pr : Prog} (hp : Sub nmFns pr) {m : Nat} {G0 : Gth} {P : List (Nat × List V)} {b r6 c0 : Nat} {o : ObS} {u l i : V} {st : St} {E : Env}
include hp
theorem loopF {k : Nat} (hb : (b, [.map m]) ∈ P) (h : GS m G0 ((r6, o.vs) :: P) st) (hG : GB c0 G0) (hc : c0 + o.fn.length < 1099511627776)
    (hE : mask [3, 4, 5, 6, 17, 18, 19, 25, 26, 27] E = [(3, .ptr b 0), (4, .fn 344 [(b, 0)]), (5, .d (.i .i64 k)), (6, .ptr r6 0), (17, u), (18, l), (19, i), (25, dsl FnS.cells o.n2 o.fn), (26, .d (.i .i64 o.fn.length)), (27, .d (.i .i64 0))]) :
    ∃ e s, cden pr (.loop [3, 4, 5, 6, 17, 18, 19, 25, 26, 27] false F331_names_gathered_b1) E st = some (.exit 2, e, s) ∧ e.get 3 = some (.ptr b 0) ∧ e.get 4 = some (.fn 344 [(b, 0)]) ∧ e.get 6 = some (.ptr r6 0) ∧ e.get 17 = some u ∧ e.get 18 = some l ∧ e.get 19 = some i ∧
      GS m (o.fn.zipIdx.foldl (addF k) G0) ((r6, o.vs) :: P) s ∧ GB (c0 + o.fn.length) (o.fn.zipIdx.foldl (addF k) G0) := by
  have hu := dsl_d FnS.c4 o.n2 o.fn
  obtain ⟨uf, huf⟩ : ∃ u, u = dsl FnS.cells o.n2 o.fn := ⟨_, rfl⟩
  rw [← huf] at hu hE
  have hmf : (b, [V.map m]) ∈ (r6, o.vs) :: P := List.mem_cons_of_mem _ hb
  obtain ⟨PP, hPP⟩ : ∃ PP, PP = (r6, o.vs) :: P := ⟨_, rfl⟩
  rw [← hPP] at h hmf ⊢
  clear hPP
  obtain ⟨r, hr, e, s, rfl, hQ⟩ : ∃ r, cden pr (.loop [3, 4, 5, 6, 17, 18, 19, 25, 26, 27] false F331_names_gathered_b1) E st = some r ∧ ∃ e s, r = (.exit 2, e, s) ∧ e.get 3 = some (.ptr b 0) ∧ e.get 4 = some (.fn 344 [(b, 0)]) ∧ e.get 6 = some (.ptr r6 0) ∧ e.get 17 = some u ∧ e.get 18 = some l ∧ e.get 19 = some i ∧
      GS m (o.fn.zipIdx.foldl (addF k) G0) PP s ∧ GB (c0 + o.fn.length) (o.fn.zipIdx.foldl (addF k) G0) := by
    obtain ⟨J, hJ⟩ : ∃ J : Nat → Env → St → Prop, ∀ n e s, J n e s ↔ ∃ j, n = o.fn.length - j ∧ j ≤ o.fn.length ∧ e = [(3, .ptr b 0), (4, .fn 344 [(b, 0)]), (5, .d (.i .i64 k)), (6, .ptr r6 0), (17, u), (18, l), (19, i), (25, uf), (26, .d (.i .i64 o.fn.length)), (27, .d (.i .i64 (j : Nat)))] ∧ GS m ((o.fn.zipIdx.take j).foldl (addF k) G0) PP s ∧ GB (c0 + j) ((o.fn.zipIdx.take j).foldl (addF k) G0) := ⟨_, fun _ _ _ => Iff.rfl⟩
    refine loop_j J ?_ (n := o.fn.length) ((hJ _ _ _).2 ⟨0, by omega, by omega, by rw [hE]; simp, by simpa using h, by simpa using hG⟩)
    intro n e s hh
    obtain ⟨j, rfl, hj, rfl, hs, hg⟩ := (hJ _ _ _).1 hh
    rcases Nat.lt_or_ge j o.fn.length with hlt | hge
    · obtain ⟨x, hx⟩ : ∃ x, o.fn[j]? = some x := ⟨_, List.getElem?_eq_getElem hlt⟩
      have hn1 : IntKind.wrap .i64 ((j : Int) + 1) = j + 1 := wrap_i64 (by omega) (by omega)
      have hia := hu.iaddr (i := (j : Int)) (k := .i64) (by omega) (by simp; omega)
      simp only [Int.toNat_natCast] at hia
      have hld : ∀ st, loadV 4 true st (elP 4 uf j 0) = some (.agg (ofDs x.cells)) := fun st => by
        rw [hu.load (el := x.cells) (by simp [hx]) (by omega) (by omega)]
        rfl
      have hzx : o.fn.zipIdx[j]? = some (x, j) := by simp [hx]
      have hfold : (o.fn.zipIdx.take (j + 1)).foldl (addF k) G0 = addF k ((o.fn.zipIdx.take j).foldl (addF k) G0) (x, j) := by
        rw [List.take_add_one, hzx, List.foldl_append]
        rfl
      have hg1 := hg.addF (k := k) (x, j)
      rw [← hfold] at hg1
      generalize (o.fn.zipIdx.take j).foldl (addF k) G0 = G at hs hg hfold
      have hfl := hs.fl
      obtain ⟨nm, gl, fi, co⟩ := x
      have hJ1 : ∀ s', GS m ((o.fn.zipIdx.take (j + 1)).foldl (addF k) G0) PP s' → ∃ q, q < o.fn.length - j ∧ J q [(3, .ptr b 0), (4, .fn 344 [(b, 0)]), (5, .d (.i .i64 k)), (6, .ptr r6 0), (17, u), (18, l), (19, i), (25, uf), (26, .d (.i .i64 o.fn.length)), (27, .d (.i .i64 ((j : Int) + 1)))] s' := fun s' hs' =>
        ⟨o.fn.length - (j + 1), by omega, (hJ _ _ _).2 ⟨j + 1, rfl, hlt, by simp, hs', hg1⟩⟩
      cases gl
      · have hp1 := hs.push [.d (.s nm), .d (.b false), .d (.i .i64 fi), .d (.i .i64 co)]
        have hfin : addF k G (⟨nm, false, fi, co⟩, j) = G := by simp [addF]
        rw [hfold, hfin] at hJ1
        simp [F331_names_gathered_b1, hlt, hn1, hia, hld, FnS.cells, ofDs, lay, hfl]
        exact hJ1 _ (hp1.sub fun x hx => List.mem_cons_of_mem _ hx)
      · have hp1 := hs.push [.d (.s nm), .d (.b true), .d (.i .i64 fi), .d (.i .i64 co)]
        have hfin : addF k G (⟨nm, true, fi, co⟩, j) = updN nm (addFs ⟨nm, k, j⟩) G := by simp [addF]; rfl
        rw [hfold, hfin] at hJ1
        obtain ⟨p, s1, hat, gp⟩ := den_at hp hp1 (List.mem_cons_of_mem _ hmf) nm
        obtain ⟨a, c, e, a', s2, s3, f1, f2, f3, f4, f5, f6, f7⟩ := gp.fs ⟨nm, k, j⟩ (by rw [get_upd_id]; have := (hg nm).1; omega)
        rw [upd_upd] at f7
        have f8 := gp.gs.pr List.mem_cons_self
        simp only [Bnd.cells] at f2
        simp [F331_names_gathered_b1, hlt, hn1, hia, hld, FnS.cells, ofDs, lay, hfl, hat, f1, f2, f3, f4, f5, f6, f8, fillV, toDs, toD, reps]
        exact hJ1 _ (f7.sub fun x hx => List.mem_cons_of_mem _ hx)
    · obtain rfl : j = o.fn.length := by omega
      have hz : o.fn.zipIdx.take o.fn.length = o.fn.zipIdx := List.take_of_length_le (by simp)
      rw [hz] at hs hg
      simp [F331_names_gathered_b1]
      exact ⟨_, _, ⟨rfl, rfl⟩, rfl, rfl, rfl, rfl, rfl, rfl, hs, hg⟩
  exact ⟨e, s, hr, hQ⟩
theorem loopT (hb : (b, [.map m]) ∈ P) (h : GS m G0 ((r6, o.vs) :: P) st) (hG : GB c0 G0) (hc : c0 + o.tb.length < 1099511627776)
    (hE : mask [3, 4, 6, 17, 18, 19, 54, 55, 56] E = [(3, .ptr b 0), (4, .fn 344 [(b, 0)]), (6, .ptr r6 0), (17, u), (18, l), (19, i), (54, dsl TbS.cells o.n3 o.tb), (55, .d (.i .i64 o.tb.length)), (56, .d (.i .i64 0))]) :
    ∃ e s, cden pr (.loop [3, 4, 6, 17, 18, 19, 54, 55, 56] false F331_names_gathered_b2) E st = some (.exit 4, e, s) ∧ e.get 3 = some (.ptr b 0) ∧ e.get 4 = some (.fn 344 [(b, 0)]) ∧ e.get 6 = some (.ptr r6 0) ∧ e.get 17 = some u ∧ e.get 18 = some l ∧ e.get 19 = some i ∧
      GS m (o.tb.foldl addT G0) ((r6, o.vs) :: P) s ∧ GB (c0 + o.tb.length) (o.tb.foldl addT G0) := by
  have hu := dsl_d TbS.c5 o.n3 o.tb
  obtain ⟨uf, huf⟩ : ∃ u, u = dsl TbS.cells o.n3 o.tb := ⟨_, rfl⟩
  rw [← huf] at hu hE
  have hmf : (b, [V.map m]) ∈ (r6, o.vs) :: P := List.mem_cons_of_mem _ hb
  obtain ⟨PP, hPP⟩ : ∃ PP, PP = (r6, o.vs) :: P := ⟨_, rfl⟩
  rw [← hPP] at h hmf ⊢
  clear hPP
  obtain ⟨r, hr, e, s, rfl, hQ⟩ : ∃ r, cden pr (.loop [3, 4, 6, 17, 18, 19, 54, 55, 56] false F331_names_gathered_b2) E st = some r ∧ ∃ e s, r = (.exit 4, e, s) ∧ e.get 3 = some (.ptr b 0) ∧ e.get 4 = some (.fn 344 [(b, 0)]) ∧ e.get 6 = some (.ptr r6 0) ∧ e.get 17 = some u ∧ e.get 18 = some l ∧ e.get 19 = some i ∧
      GS m (o.tb.foldl addT G0) PP s ∧ GB (c0 + o.tb.length) (o.tb.foldl addT G0) := by
    obtain ⟨J, hJ⟩ : ∃ J : Nat → Env → St → Prop, ∀ n e s, J n e s ↔ ∃ j, n = o.tb.length - j ∧ j ≤ o.tb.length ∧ e = [(3, .ptr b 0), (4, .fn 344 [(b, 0)]), (6, .ptr r6 0), (17, u), (18, l), (19, i), (54, uf), (55, .d (.i .i64 o.tb.length)), (56, .d (.i .i64 (j : Nat)))] ∧ GS m ((o.tb.take j).foldl addT G0) PP s ∧ GB (c0 + j) ((o.tb.take j).foldl addT G0) := ⟨_, fun _ _ _ => Iff.rfl⟩
    refine loop_j J ?_ (n := o.tb.length) ((hJ _ _ _).2 ⟨0, by omega, by omega, by rw [hE]; simp, by simpa using h, by simpa using hG⟩)
    intro n e s hh
    obtain ⟨j, rfl, hj, rfl, hs, hg⟩ := (hJ _ _ _).1 hh
    rcases Nat.lt_or_ge j o.tb.length with hlt | hge
    · obtain ⟨x, hx⟩ : ∃ x, o.tb[j]? = some x := ⟨_, List.getElem?_eq_getElem hlt⟩
      have hn1 : IntKind.wrap .i64 ((j : Int) + 1) = j + 1 := wrap_i64 (by omega) (by omega)
      have hia := hu.iaddr (i := (j : Int)) (k := .i64) (by omega) (by simp; omega)
      simp only [Int.toNat_natCast] at hia
      have hld : ∀ st, loadV 5 true st (elP 5 uf j 0) = some (.agg (ofDs x.cells)) := fun st => by
        rw [hu.load (el := x.cells) (by simp [hx]) (by omega) (by omega)]
        rfl
      have hfold : (o.tb.take (j + 1)).foldl addT G0 = addT ((o.tb.take j).foldl addT G0) x := by
        rw [List.take_add_one, hx, List.foldl_append]
        rfl
      have hg1 := hg.addT x
      rw [← hfold] at hg1
      generalize (o.tb.take j).foldl addT G0 = G at hs hg hfold
      have hfl := hs.fl
      have hfin : addT G x = updN x.nm (addTs x) G := rfl
      have hJ1 : ∀ s', GS m ((o.tb.take (j + 1)).foldl addT G0) PP s' → ∃ q, q < o.tb.length - j ∧ J q [(3, .ptr b 0), (4, .fn 344 [(b, 0)]), (6, .ptr r6 0), (17, u), (18, l), (19, i), (54, uf), (55, .d (.i .i64 o.tb.length)), (56, .d (.i .i64 ((j : Int) + 1)))] s' := fun s' hs' =>
        ⟨o.tb.length - (j + 1), by omega, (hJ _ _ _).2 ⟨j + 1, rfl, hlt, by simp, hs', hg1⟩⟩
      rw [hfold, hfin] at hJ1
      have hp1 := hs.push (ofDs x.cells)
      obtain ⟨p, s1, hat, gp⟩ := den_at hp hp1 (List.mem_cons_of_mem _ hmf) x.nm
      obtain ⟨a, c, e, c', s2, s3, f1, f2, f3, f4, f5, f6, f7⟩ := gp.ts x (by rw [get_upd_id]; have := (hg x.nm).2; omega)
      rw [upd_upd] at f7
      have f8 := gp.gs.pr List.mem_cons_self
      simp only [TbS.cells, ofDs, List.map_cons, List.map_nil] at f2 f8 hat hld
      simp [F331_names_gathered_b2, hlt, hn1, hia, hld, ofDs, lay, hfl, hat, f1, f2, f3, f4, f5, f6, f8, fillV, toDs, toD, reps]
      exact hJ1 _ (f7.sub fun x hx => List.mem_cons_of_mem _ hx)
    · obtain rfl : j = o.tb.length := by omega
      rw [List.take_of_length_le (Nat.le_refl _)] at hs hg
      simp [F331_names_gathered_b2]
      exact ⟨_, _, ⟨rfl, rfl⟩, rfl, rfl, rfl, rfl, rfl, rfl, hs, hg⟩
  exact ⟨e, s, hr, hQ⟩
theorem loopE (hb : (b, [.map m]) ∈ P) (h : GS m G0 ((r6, o.vs) :: P) st) (hG : GB c0 G0) (hc : o.ex.length < 1099511627776)
    (hE : mask [3, 4, 17, 18, 19, 76, 77, 78] E = [(3, .ptr b 0), (4, .fn 344 [(b, 0)]), (17, u), (18, l), (19, i), (76, dsl txC o.n4 o.ex), (77, .d (.i .i64 o.ex.length)), (78, .d (.i .i64 0))]) :
    ∃ e s, cden pr (.loop [3, 4, 17, 18, 19, 76, 77, 78] false F331_names_gathered_b3) E st = some (.exit 6, e, s) ∧ e.get 3 = some (.ptr b 0) ∧ e.get 4 = some (.fn 344 [(b, 0)]) ∧ e.get 17 = some u ∧ e.get 18 = some l ∧ e.get 19 = some i ∧
      GS m (o.ex.foldl addE G0) ((r6, o.vs) :: P) s ∧ GB (c0 + o.ex.length) (o.ex.foldl addE G0) := by
  have hu := dsl_d txC1 o.n4 o.ex
  obtain ⟨uf, huf⟩ : ∃ u, u = dsl txC o.n4 o.ex := ⟨_, rfl⟩
  rw [← huf] at hu hE
  have hmf : (b, [V.map m]) ∈ (r6, o.vs) :: P := List.mem_cons_of_mem _ hb
  obtain ⟨PP, hPP⟩ : ∃ PP, PP = (r6, o.vs) :: P := ⟨_, rfl⟩
  rw [← hPP] at h hmf ⊢
  clear hPP
  obtain ⟨r, hr, e, s, rfl, hQ⟩ : ∃ r, cden pr (.loop [3, 4, 17, 18, 19, 76, 77, 78] false F331_names_gathered_b3) E st = some r ∧ ∃ e s, r = (.exit 6, e, s) ∧ e.get 3 = some (.ptr b 0) ∧ e.get 4 = some (.fn 344 [(b, 0)]) ∧ e.get 17 = some u ∧ e.get 18 = some l ∧ e.get 19 = some i ∧
      GS m (o.ex.foldl addE G0) PP s ∧ GB (c0 + o.ex.length) (o.ex.foldl addE G0) := by
    obtain ⟨J, hJ⟩ : ∃ J : Nat → Env → St → Prop, ∀ n e s, J n e s ↔ ∃ j, n = o.ex.length - j ∧ j ≤ o.ex.length ∧ e = [(3, .ptr b 0), (4, .fn 344 [(b, 0)]), (17, u), (18, l), (19, i), (76, uf), (77, .d (.i .i64 o.ex.length)), (78, .d (.i .i64 (j : Nat)))] ∧ GS m ((o.ex.take j).foldl addE G0) PP s ∧ GB (c0 + j) ((o.ex.take j).foldl addE G0) := ⟨_, fun _ _ _ => Iff.rfl⟩
    refine loop_j J ?_ (n := o.ex.length) ((hJ _ _ _).2 ⟨0, by omega, by omega, by rw [hE]; simp, by simpa using h, by simpa using hG⟩)
    intro n e s hh
    obtain ⟨j, rfl, hj, rfl, hs, hg⟩ := (hJ _ _ _).1 hh
    rcases Nat.lt_or_ge j o.ex.length with hlt | hge
    · obtain ⟨x, hx⟩ : ∃ x, o.ex[j]? = some x := ⟨_, List.getElem?_eq_getElem hlt⟩
      have hn1 : IntKind.wrap .i64 ((j : Int) + 1) = j + 1 := wrap_i64 (by omega) (by omega)
      have hia := hu.iaddr (i := (j : Int)) (k := .i64) (by omega) (by simp; omega)
      simp only [Int.toNat_natCast] at hia
      have hld : ∀ st, loadV 1 false st (elP 1 uf j 0) = some (.d (.s x)) := fun st => by
        rw [hu.load (el := txC x) (by simp [hx]) (by omega) (by omega)]
        rfl
      have hfold : (o.ex.take (j + 1)).foldl addE G0 = addE ((o.ex.take j).foldl addE G0) x := by
        rw [List.take_add_one, hx, List.foldl_append]
        rfl
      have hg1 := hg.addE x
      rw [← hfold] at hg1
      generalize (o.ex.take j).foldl addE G0 = G at hs hg hfold
      have hfl := hs.fl
      have hfin : addE G x = updN x setEx G := rfl
      have hJ1 : ∀ s', GS m ((o.ex.take (j + 1)).foldl addE G0) PP s' → ∃ q, q < o.ex.length - j ∧ J q [(3, .ptr b 0), (4, .fn 344 [(b, 0)]), (17, u), (18, l), (19, i), (76, uf), (77, .d (.i .i64 o.ex.length)), (78, .d (.i .i64 ((j : Int) + 1)))] s' := fun s' hs' =>
        ⟨o.ex.length - (j + 1), by omega, (hJ _ _ _).2 ⟨j + 1, rfl, hlt, by simp, hs', hg1⟩⟩
      rw [hfold, hfin] at hJ1
      obtain ⟨p, s1, hat, gp⟩ := den_at hp hs hmf x
      obtain ⟨a, c, e, s2, f1, f4, f7⟩ := gp.ex
      rw [upd_upd] at f7
      simp [F331_names_gathered_b3, hlt, hn1, hia, hld, lay, hfl, hat, f1, f4]
      exact hJ1 _ f7
    · obtain rfl : j = o.ex.length := by omega
      rw [List.take_of_length_le (Nat.le_refl _)] at hs hg
      simp [F331_names_gathered_b3]
      exact ⟨_, _, ⟨rfl, rfl⟩, rfl, rfl, rfl, rfl, rfl, hs, hg⟩
  exact ⟨e, s, hr, hQ⟩
end
end Go.Sh
