/- names.gathered, whole; the rules. -/
import Derived.Test.YtidigkielipghaaDoorShLnmF
set_option linter.unusedVariables false
set_option linter.unusedSimpArgs false
set_option linter.unusedSectionVars false
namespace Go.Sh
/-- Not too much of anything. -/
structure ObS.few (o : ObS) : Prop where
  fn : o.fn.length ≤ 1024
  tb : o.tb.length ≤ 1024
  ex : o.ex.length ≤ 1024
section
variable {pr : Prog} (hp : Sub nmFns pr) {P : List (Nat × List V)} {st : St}
include hp
theorem den_gathered {u : V} {os : List ObS} (hu : SlD 5 u (os.map ObS.cells)) (hn : os.length ≤ 64) (hf : ∀ o ∈ os, o.few) (h0 : st.floor = 0) (h1 : st.tfloor = 0) (hP : ∀ x ∈ P, st.row x.1 = some x.2) :
    ∃ m b s, den pr 331 [u] st = some (.map m, s) ∧ GS m (gathA os) ((b, [.map m]) :: P) s := by
  obtain ⟨m, hm⟩ : ∃ m, m = st.heap.length := ⟨_, rfl⟩
  obtain ⟨b, hb⟩ : ∃ b, b = st.heap.length + 1 := ⟨_, rfl⟩
  obtain ⟨s0, hs0⟩ : ∃ s0, s0 = (st.push (.map [])).push (.row [.map m]) := ⟨_, rfl⟩
  have hg0 : GS m [] ((b, [.map m]) :: P) s0 := by
    have hl1 : (st.push (.map [])).heap.length = b := by rw [hb]; simp
    refine ⟨fun _ => 0, fun _ _ => 0, by rw [hs0]; exact h0, by rw [hs0]; exact h1, ?_, by simp [keysN], fun n hn => by simp [keysN] at hn, fun n hn => by simp [keysN] at hn, fun n b hu => ?_, fun n b n' b' hu => ?_, fun x hx => ⟨?_, fun n hn => by simp [keysN] at hn⟩⟩
    · rw [hs0, mapOf_old (by rw [hl1]; omega), hm]
      exact mapOf_push_new
    · cases b <;> simp [usd, getN', kn0] at hu
    · cases b <;> simp [usd, getN', kn0] at hu
    · rcases List.mem_cons.1 hx with rfl | hx
      · rw [hs0]
        exact row_push_new (by rw [hl1])
      · have := row_lt (hP x hx)
        rw [hs0, row_old (by rw [hl1]; omega), row_old this]
        exact hP x hx
  have hlen := hu.len
  rw [List.length_map] at hlen
  refine ⟨m, b, ?_⟩
  rw [den_fn (hp.at 0 rfl) rfl rfl, start_raw _ rfl]
  have hfl1 : (st.push (.map [])).floor ≤ (st.push (.map [])).heap.length := by rw [push_floor, h0]; omega
  have hset : ∀ cs, ((st.push (.map [])).push (.row cs)).setBlk (st.heap.length + 1) (.row [.map st.heap.length]) = some s0 := fun cs => by
    rw [setBlk_push (by simp) hfl1, hs0, hm]
  have hrow : ∀ cs, ((st.push (.map [])).push (.row cs)).row (st.heap.length + 1) = some cs := fun cs => row_push_new (by simp)
  simp [F331_names_gathered, ofDs, hset, hrow, lay, hlen, capsV]
  generalize hL : cden pr (.loop _ _ F331_names_gathered_b0) _ _ = q
  obtain ⟨r, rfl, e, s, rfl, he3, hgs⟩ : ∃ r, q = some r ∧ ∃ e s, r = (.exit 0, e, s) ∧ e.get 3 = some (.ptr b 0) ∧ GS m (gathA os) ((b, [.map m]) :: P) s := by
    rw [← hL]
    clear hL
    obtain ⟨J, hJ⟩ : ∃ J : Nat → Env → St → Prop, ∀ n e s, J n e s ↔ ∃ i, n = os.length - i ∧ i ≤ os.length ∧ e = [(3, .ptr b 0), (4, .fn 344 [(b, 0)]), (17, u), (18, .d (.i .i64 os.length)), (19, .d (.i .i64 (i : Nat)))] ∧ GS m ((os.zipIdx.take i).foldl gathO []) ((b, [.map m]) :: P) s ∧ GB (i * 4096) ((os.zipIdx.take i).foldl gathO []) := ⟨_, fun _ _ _ => Iff.rfl⟩
    refine loop_j J ?_ (n := os.length) ((hJ _ _ _).2 ⟨0, by omega, by omega, by simp [hb], by simpa using hg0, fun n => by simp [getN', kn0]⟩)
    intro n e s hh
    obtain ⟨i, rfl, hi, rfl, hs, hg⟩ := (hJ _ _ _).1 hh
    rcases Nat.lt_or_ge i os.length with hlt | hge
    · obtain ⟨o, ho⟩ : ∃ o, os[i]? = some o := ⟨_, List.getElem?_eq_getElem hlt⟩
      have hof := hf o (List.mem_of_getElem? ho)
      have hn1 : IntKind.wrap .i64 ((i : Int) + 1) = i + 1 := wrap_i64 (by omega) (by omega)
      have hia := hu.iaddr (i := (i : Int)) (k := .i64) (by omega) (by simp; omega)
      simp only [Int.toNat_natCast] at hia
      have hld : ∀ st, loadV 5 true st (elP 5 u i 0) = some (.agg [dsl Ins.cells o.n1 o.tx, dsl FnS.cells o.n2 o.fn, dsl TbS.cells o.n3 o.tb, dsl txC o.n4 o.ex, dsl RlS.cells o.n5 o.rl]) := fun st => by
        rw [hu.load (el := o.cells) (by simp [ho]) (by omega) (by omega)]
        rfl
      have hzx : os.zipIdx[i]? = some (o, i) := by simp [ho]
      have hfold : (os.zipIdx.take (i + 1)).foldl gathO [] = gathO ((os.zipIdx.take i).foldl gathO []) (o, i) := by
        rw [List.take_add_one, hzx, List.foldl_append]
        rfl
      have hJ1 : ∀ s', GS m ((os.zipIdx.take (i + 1)).foldl gathO []) ((b, [.map m]) :: P) s' → GB ((i + 1) * 4096) ((os.zipIdx.take (i + 1)).foldl gathO []) → ∃ q, q < os.length - i ∧ J q [(3, .ptr b 0), (4, .fn 344 [(b, 0)]), (17, u), (18, .d (.i .i64 os.length)), (19, .d (.i .i64 ((i : Int) + 1)))] s' := fun s' hs' hg' =>
        ⟨os.length - (i + 1), by omega, (hJ _ _ _).2 ⟨i + 1, rfl, hlt, by simp, hs', hg'⟩⟩
      rw [hfold] at hJ1
      generalize (os.zipIdx.take i).foldl gathO [] = G at hs hg hJ1
      clear hfold
      have hfl := hs.fl
      have hp1 := hs.push o.vs
      obtain ⟨sp, hsp⟩ : ∃ sp, sp = s.push (.row o.vs) := ⟨_, rfl⟩
      rw [← hsp] at hp1
      have hrp := hp1.pr List.mem_cons_self
      have hset6 : ∀ cs, (s.push (.row cs)).setBlk s.heap.length (.row [dsl Ins.cells o.n1 o.tx, dsl FnS.cells o.n2 o.fn, dsl TbS.cells o.n3 o.tb, dsl txC o.n4 o.ex, dsl RlS.cells o.n5 o.rl]) = some sp := fun cs => by
        rw [setBlk_push rfl (by rw [hfl]; omega), hsp]
        rfl
      have hrow6 : ∀ cs, (s.push (.row cs)).row s.heap.length = some cs := fun cs => row_push_new rfl
      simp only [ObS.vs] at hrp
      simp [F331_names_gathered_b0, hlt, hn1, hia, hld, hset6, hrow6, ofDs, lay, hrp]
      generalize s.heap.length = r6 at hp1 hrp
      clear hset6 hrow6 hsp
      have hmem : (b, [V.map m]) ∈ (b, [V.map m]) :: P := List.mem_cons_self
      have hof1 := hof.fn
      have hof2 := hof.tb
      have hof3 := hof.ex
      generalize hL : cden pr (.loop _ _ F331_names_gathered_b1) _ _ = q
      obtain ⟨e, s1, e1, a3, a4, a6, a17, a18, a19, hs1, hg1⟩ := loopF hp (o := o) (k := i) (u := u) (l := .d (.i .i64 os.length)) (i := .d (.i .i64 i)) (st := sp) (c0 := i * 4096) (E := [(3, .ptr b 0), (4, .fn 344 [(b, 0)]), (5, .d (.i .i64 i)), (6, .ptr r6 0), (17, u), (18, .d (.i .i64 os.length)), (19, .d (.i .i64 i)), (25, dsl FnS.cells o.n2 o.fn), (26, .d (.i .i64 o.fn.length)), (27, .d (.i .i64 0))]) hmem hp1 hg (by omega) rfl
      rw [e1] at hL
      subst hL
      have hr1 := hs1.pr List.mem_cons_self
      simp only [ObS.vs] at hr1
      simp [a3, a4, a6, a17, a18, a19, hr1]
      generalize hL : cden pr (.loop _ _ F331_names_gathered_b2) _ _ = q
      obtain ⟨e', s2, e2, b3, b4, b6, b17, b18, b19, hs2, hg2⟩ := loopT hp (o := o) (u := u) (l := .d (.i .i64 os.length)) (i := .d (.i .i64 i)) (st := s1) (c0 := i * 4096 + o.fn.length) (E := [(3, .ptr b 0), (4, .fn 344 [(b, 0)]), (6, .ptr r6 0), (17, u), (18, .d (.i .i64 os.length)), (19, .d (.i .i64 i)), (54, dsl TbS.cells o.n3 o.tb), (55, .d (.i .i64 o.tb.length)), (56, .d (.i .i64 0))]) hmem hs1 hg1 (by omega) rfl
      rw [e2] at hL
      subst hL
      have hr2 := hs2.pr List.mem_cons_self
      simp only [ObS.vs] at hr2
      simp [b3, b4, b6, b17, b18, b19, hr2]
      generalize hL : cden pr (.loop _ _ F331_names_gathered_b3) _ _ = q
      obtain ⟨e', s3, e3, c3, c4, c17, c18, c19, hs3, hg3⟩ := loopE hp (o := o) (u := u) (l := .d (.i .i64 os.length)) (i := .d (.i .i64 i)) (st := s2) (c0 := i * 4096 + o.fn.length + o.tb.length) (E := [(3, .ptr b 0), (4, .fn 344 [(b, 0)]), (17, u), (18, .d (.i .i64 os.length)), (19, .d (.i .i64 i)), (76, dsl txC o.n4 o.ex), (77, .d (.i .i64 o.ex.length)), (78, .d (.i .i64 0))]) hmem hs2 hg2 (by omega) rfl
      rw [e3] at hL
      subst hL
      simp [c3, c4, c17, c18, c19, hn1]
      exact hJ1 _ (hs3.sub fun x hx => List.mem_cons_of_mem _ hx) (hg3.mono (by omega))
    · obtain rfl : i = os.length := by omega
      rw [List.take_of_length_le (by simp)] at hs
      simp [F331_names_gathered_b0]
      exact ⟨_, _, ⟨rfl, rfl⟩, rfl, hs⟩
  have hrb := hgs.pr List.mem_cons_self
  simp [he3, hrb]
  exact hgs
end
end Go.Sh
