/- The rules that Merge goes by. -/
import Derived.Test.YtidigkielipghaaDoorShLnmG
import Derived.Test.YtidigkielipghaaDoorShBe
set_option linter.unusedVariables false
set_option linter.unusedSimpArgs false
set_option linter.unusedSectionVars false
namespace Go.Sh
def twiceB (k : Kn) : Bool := decide (1 < k.fs.length) || (decide (k.fs.length = 1) && decide (0 < k.ts.length))
def undefB (k : Kn) : Bool := k.ex && decide (k.fs.length = 0)
def diffB : List TbS → Bool
  | [] => false
  | t :: r => (t :: r).any fun x => decide (x ≠ t)
theorem eqV_tab (x y : TbS) : eqV [9, 2, 0, 0, 0, 0] (.agg (ofDs x.cells)) (.agg (ofDs y.cells)) = some (decide (x = y)) := by
  obtain ⟨a, b, c, d, e⟩ := x
  obtain ⟨a', b', c', d', e'⟩ := y
  have h : ∀ l : List D, toDs (ofDs l) = some l := fun l => by
    induction l with
    | nil => rfl
    | cons a r ih =>
      simp only [ofDs, List.map_cons, toDs, toD] at ih ⊢
      rw [ih]
  simp only [eqV, h, TbS.cells, List.length_cons, List.length_nil, and_self, if_true, eqDs, eqK]
  by_cases h1 : a = a'
  · by_cases h2 : b = b'
    · by_cases h3 : c = c'
      · by_cases h4 : d = d'
        · by_cases h5 : e = e' <;> simp [h1, h2, h3, h4, h5]
        · simp [h1, h2, h3, h4]
      · simp [h1, h2, h3]
    · simp [h1, h2]
  · have h1' : (a == a') = false := by simpa using h1
    simp [h1, h1']
theorem grl_at {α : Type} {c : α → List D} {sz : Nat} (hc : ∀ x, (c x).length = sz) (hz : 0 < sz) {l : List α} {t i : Nat} {x : α} (hx : l[i]? = some x) :
    ∃ w, iaddrV sz (grl c sz l t) (.d (.i .i64 (i : Int))) = some w ∧ ∀ s, loadV sz true s w = some (.agg (ofDs (c x))) := by
  have hd := dsl_d hc true l
  have hlt := (List.getElem?_eq_some_iff.1 hx).1
  have hia := hd.iaddr (i := (i : Int)) (k := .i64) (by omega) (by simp; exact hlt)
  simp only [Int.toNat_natCast] at hia
  have hne : l ≠ [] := by rintro rfl; simp at hx
  refine ⟨elP sz (dsl c true l) i 0, ?_, fun s => ?_⟩
  · rw [← hia]
    unfold grl
    rw [if_neg hne]
    rfl
  · rw [hd.load (el := c x) (by simp [hx]) hz (by omega)]
    rw [List.drop_zero, List.take_of_length_le (by rw [hc]; exact Nat.le_refl _)]
    rfl
section
variable {pr : Prog} (hp : Sub nmFns pr) {st : St} {k : Kn} {p a b : Nat}
include hp
theorem den_twice (hr : st.row p = some (knV k a b)) : den pr 334 [.ptr p 0] st = some (.d (.b (twiceB k)), st) := by
  rw [den_fn (hp.at 4 rfl) rfl rfl]
  have hrs : (start F334_names_known_twice st).row p = some (knV k a b) := hr
  have hl1 := grl_len Bnd.cells 3 k.fs a
  have hl2 := grl_len TbS.cells 5 k.ts b
  simp only [knV] at hrs
  generalize grl Bnd.cells 3 k.fs a = v1 at hrs hl1
  generalize grl TbS.cells 5 k.ts b = v2 at hrs hl2
  unfold twiceB
  generalize start F334_names_known_twice st = s1 at hrs ⊢
  by_cases h1 : 1 < k.fs.length
  · have h1' : (1 : Int) < k.fs.length := by omega
    simp [F334_names_known_twice, hrs, hl1, hl2, h1, h1']
  · have h1' : ¬ (1 : Int) < k.fs.length := by omega
    by_cases h2 : k.fs.length = 1
    · by_cases h3 : 0 < k.ts.length
      · have h3' : (0 : Int) < k.ts.length := by omega
        simp [F334_names_known_twice, hrs, hl1, hl2, h2, h3, h3']
      · have h3' : ¬ (0 : Int) < k.ts.length := by omega
        simp [F334_names_known_twice, hrs, hl1, hl2, h2, h3, h3']
    · have h2' : ¬ (k.fs.length : Int) = 1 := by omega
      simp [F334_names_known_twice, hrs, hl1, hl2, h1, h1', h2, h2']
theorem den_undef (hr : st.row p = some (knV k a b)) : den pr 335 [.ptr p 0] st = some (.d (.b (undefB k)), st) := by
  rw [den_fn (hp.at 5 rfl) rfl rfl]
  have hrs : (start F335_names_known_undefined st).row p = some (knV k a b) := hr
  have hl1 := grl_len Bnd.cells 3 k.fs a
  simp only [knV] at hrs
  generalize grl Bnd.cells 3 k.fs a = v1 at hrs hl1
  unfold undefB
  generalize start F335_names_known_undefined st = s1 at hrs ⊢
  cases he : k.ex
  · rw [he] at hrs
    simp [F335_names_known_undefined, hrs, hl1]
  · rw [he] at hrs
    by_cases h1 : k.fs.length = 0
    · have h1' : (k.fs.length : Int) = 0 := by omega
      simp [F335_names_known_undefined, hrs, hl1, h1, h1']
    · have h1' : ¬ (k.fs.length : Int) = 0 := by omega
      simp [F335_names_known_undefined, hrs, hl1, h1, h1']
/-- Does a table differ from the first? -/
theorem den_sh1 {h : Nat} (hh : st.row h = some [.ptr p 0]) (hr : st.row p = some (knV k a b)) {t : TbS} {r : List TbS} (hk : k.ts = t :: r) (x : TbS) : den pr 346 [.agg (ofDs x.cells), .ptr h 0] st = some (.d (.b (decide (x ≠ t))), st) := by
  rw [den_fn (hp.at 7 rfl) rfl rfl]
  have hrs : (start F346_names_known_shapes_1 st).row p = some (knV k a b) := hr
  have hhs : (start F346_names_known_shapes_1 st).row h = some [.ptr p 0] := hh
  simp only [knV] at hrs
  have hia : iaddrV 5 (grl TbS.cells 5 k.ts b) (.d (.i .i64 0)) = some (.ep ((k.ts.map TbS.cells).flatten)) := by
    unfold grl
    rw [if_neg (by rw [hk]; simp)]
    simp [iaddrV, intV, hk]
  have hld : ∀ s, loadV 5 true s (.ep ((k.ts.map TbS.cells).flatten)) = some (.agg (ofDs t.cells)) := fun s => by
    rw [hk]
    simp [loadV, TbS.cells, mkV]
  have heq := eqV_tab x t
  generalize grl Bnd.cells 3 k.fs a = v1 at hrs
  generalize grl TbS.cells 5 k.ts b = v2 at hrs hia
  generalize (k.ts.map TbS.cells).flatten = fl at hia hld
  obtain ⟨q0, q1, q2, q3, q4, hq⟩ : ∃ q0 q1 q2 q3 q4, ofDs x.cells = [q0, q1, q2, q3, q4] := ⟨_, _, _, _, _, rfl⟩
  obtain ⟨w, hw⟩ : ∃ w, w = ofDs t.cells := ⟨_, rfl⟩
  rw [hq] at heq ⊢
  rw [← hw] at heq hld
  have hst : (start F346_names_known_shapes_1 st).heap.length = st.heap.length := rfl
  have hlp := row_lt hr
  have hlh := row_lt hh
  rw [← hst] at hlp hlh
  have hfinish : ∀ s e v, e.get 3 = some (V.d (.b v)) → finish F346_names_known_shapes_1 st (some (.ret, e, s)) = some (.d (.b v), st) := fun s e v he => by
    simp [finish, F346_names_known_shapes_1, resV, resOne, he, esc, esc1, escC]
  generalize start F346_names_known_shapes_1 st = s1 at hrs hhs hlp hlh ⊢
  have hr2 : ∀ c, (s1.push c).row p = (s1.row p) := fun c => row_old hlp
  have hh2 : ∀ c, (s1.push c).row h = (s1.row h) := fun c => row_old hlh
  simp [F346_names_known_shapes_1, hr2, hh2, hrs, hhs, hia, hld, heq]
theorem den_idx {h : Nat} (hh : st.row h = some [.ptr p 0]) (hr : st.row p = some (knV k a b)) (hl : k.ts.length < 1099511627776) : ∃ z : Int, den pr 349 [grl TbS.cells 5 k.ts b, .fn 346 [(h, 0)]] st = some (.d (.i .i64 z), st) ∧ (0 ≤ z ↔ diffB k.ts = true) := by
  rw [den_fn (hp.at 9 rfl) rfl rfl]
  have hrs : (start F349_slices_IndexFunc_api_TableDef_api_TableDef st).row p = some (knV k a b) := hr
  have hhs : (start F349_slices_IndexFunc_api_TableDef_api_TableDef st).row h = some [.ptr p 0] := hh
  generalize start F349_slices_IndexFunc_api_TableDef_api_TableDef st = s1 at hrs hhs ⊢
  have hlen := grl_len TbS.cells 5 k.ts b
  have hat := fun i x (hx : k.ts[i]? = some x) => grl_at TbS.c5 (by omega) (t := b) hx
  have hsh := fun t r (hk : k.ts = t :: r) x => den_sh1 hp hhs hrs hk x
  generalize grl TbS.cells 5 k.ts b = v at hlen hat ⊢
  clear hrs hhs
  simp [F349_slices_IndexFunc_api_TableDef_api_TableDef, hlen]
  generalize hL : cden pr (.loop _ _ _) _ _ = o
  obtain ⟨r, rfl, hQ⟩ : ∃ r, o = some r ∧ ((diffB k.ts = false ∧ ∃ e, r = (.exit 0, e, s1)) ∨ (diffB k.ts = true ∧ ∃ e, ∃ i : Nat, r = (.ret, e, s1) ∧ e.get 4 = some (.d (.i .i64 (i : Int))))) := by
    rw [← hL]
    clear hL
    obtain ⟨J, hJ⟩ : ∃ J : Nat → Env → St → Prop, ∀ n e s, J n e s ↔ ∃ i, n = k.ts.length - i ∧ i ≤ k.ts.length ∧ e = [(0, v), (1, .fn 346 [(h, 0)]), (7, .d (.i .i64 k.ts.length)), (8, .d (.i .i64 (i : Nat)))] ∧ s = s1 ∧ ∀ t r, k.ts = t :: r → ∀ x ∈ k.ts.take i, x = t := ⟨_, fun _ _ _ => Iff.rfl⟩
    refine loop_j J ?_ (n := k.ts.length) ((hJ _ _ _).2 ⟨0, by omega, by omega, by simp, rfl, fun t r _ x hx => by simp at hx⟩)
    intro n e s hj
    obtain ⟨i, rfl, hi, rfl, rfl, hq⟩ := (hJ _ _ _).1 hj
    rcases Nat.lt_or_ge i k.ts.length with hlt | hge
    · obtain ⟨x, hx⟩ : ∃ x, k.ts[i]? = some x := ⟨_, List.getElem?_eq_getElem hlt⟩
      have hn1 : IntKind.wrap .i64 ((i : Int) + 1) = i + 1 := wrap_i64 (by omega) (by omega)
      obtain ⟨w, hia, hld⟩ := hat i x hx
      obtain ⟨t, r, hk⟩ : ∃ t r, k.ts = t :: r := by
        cases hc : k.ts with
        | nil => rw [hc] at hlt; simp at hlt
        | cons t r => exact ⟨t, r, rfl⟩
      have hs := hsh t r hk x
      have hm := List.mem_of_getElem? hx
      generalize ofDs x.cells = xc at hld hs
      by_cases hxt : x = t
      · have hs' : den pr 346 [.agg xc, .ptr h 0] s = some (.d (.b false), s) := by rw [hs]; simp [hxt]
        simp [F349_slices_IndexFunc_api_TableDef_api_TableDef_b0, hlt, hn1, hia, hld, hs']
        refine ⟨_, Nat.lt_of_lt_of_le ?_ (Nat.le_refl _), (hJ _ _ _).2 ⟨i + 1, rfl, hlt, by simp, rfl, fun t' r' hk' y hy => ?_⟩⟩
        · omega
        · rw [hk, List.cons.injEq] at hk'
          obtain ⟨rfl, rfl⟩ := hk'
          rw [List.take_add_one, hx, List.mem_append] at hy
          rcases hy with hy | hy
          · exact hq t r hk y hy
          · simp at hy
            rw [hy, hxt]
      · have hs' : den pr 346 [.agg xc, .ptr h 0] s = some (.d (.b true), s) := by rw [hs]; simp [hxt]
        have hd : diffB k.ts = true := by
          rw [hk] at hm ⊢
          unfold diffB
          rw [List.any_eq_true]
          exact ⟨x, hm, by simpa using hxt⟩
        simp [F349_slices_IndexFunc_api_TableDef_api_TableDef_b0, hlt, hn1, hia, hld, hs', hd]
        first | exact ⟨_, rfl⟩ | exact ⟨_, _, rfl⟩
    · obtain rfl : i = k.ts.length := by omega
      have hd : diffB k.ts = false := by
        rw [List.take_of_length_le (Nat.le_refl _)] at hq
        cases hc : k.ts with
        | nil => rfl
        | cons t r =>
          rw [Bool.eq_false_iff]
          intro e
          rw [diffB, List.any_eq_true] at e
          obtain ⟨x, hx, hd⟩ := e
          have := hq t r hc x (by rw [hc]; exact hx)
          simp [this] at hd
      simp [F349_slices_IndexFunc_api_TableDef_api_TableDef_b0, hd]
  rcases hQ with ⟨hd, e, rfl⟩ | ⟨hd, e, i, rfl, h4⟩
  · refine ⟨-1, ?_, by simp [hd]⟩
    simp
  · refine ⟨i, ?_, by simp [hd]⟩
    simp [h4]
theorem den_cont {h : Nat} (hh : st.row h = some [.ptr p 0]) (hr : st.row p = some (knV k a b)) (hl : k.ts.length < 1099511627776) : den pr 347 [grl TbS.cells 5 k.ts b, .fn 346 [(h, 0)]] st = some (.d (.b (diffB k.ts)), st) := by
  rw [den_fn (hp.at 8 rfl) rfl rfl]
  have hrs : (start F347_slices_ContainsFunc_api_TableDef_api_TableDef st).row p = some (knV k a b) := hr
  have hhs : (start F347_slices_ContainsFunc_api_TableDef_api_TableDef st).row h = some [.ptr p 0] := hh
  generalize start F347_slices_ContainsFunc_api_TableDef_api_TableDef st = s1 at hrs hhs ⊢
  obtain ⟨z, hz, hd⟩ := den_idx hp hhs hrs hl
  generalize grl TbS.cells 5 k.ts b = v at hz ⊢
  cases hb : diffB k.ts
  · rw [hb] at hd
    have : ¬ 0 ≤ z := fun e => by simpa using hd.1 e
    simp [F347_slices_ContainsFunc_api_TableDef_api_TableDef, hz, this]
  · rw [hb] at hd
    have : 0 ≤ z := hd.2 rfl
    simp [F347_slices_ContainsFunc_api_TableDef_api_TableDef, hz, this]
theorem den_shapes (hr : st.row p = some (knV k a b)) (hl : k.ts.length < 1099511627776) : den pr 336 [.ptr p 0] st = some (.d (.b (diffB k.ts)), st) := by
  rw [den_fn (hp.at 6 rfl) rfl rfl]
  have hrs : (start F336_names_known_shapes st).row p = some (knV k a b) := hr
  generalize start F336_names_known_shapes st = s1 at hrs ⊢
  have hlp := row_lt hrs
  have hr2 : (s1.push (.row [.ptr p 0])).row p = some (knV k a b) := by rw [row_old hlp]; exact hrs
  have hh2 : (s1.push (.row [.ptr p 0])).row s1.heap.length = some [.ptr p 0] := row_push_new rfl
  have hc := den_cont hp hh2 hr2 hl
  simp only [knV] at hr2
  generalize grl TbS.cells 5 k.ts b = v at hr2 hc
  generalize grl Bnd.cells 3 k.fs a = v1 at hr2
  have hcs : (V.ptr p 0).cs = [.ptr p 0] := rfl
  have hok : (V.ptr p 0).ok1 = true := rfl
  simp [F336_names_known_shapes, hr2, hh2, hc, capsV, hcs, hok]
end
end Go.Sh
