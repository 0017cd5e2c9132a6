/- isa.Reads, whatever room its appends find. -/
import Derived.Test.YtnemobbnlacmjaaDoorShLisaRegsU
import Derived.Test.YtnemobbnlacmjaaDoorShLisaRegsS
set_option linter.unusedVariables false
set_option linter.unusedSimpArgs false
namespace Go.Sh
def srt : List Int → List Int
  | [a, b] => if b < a then [b, a] else [a, b]
  | [z, a, b] => if b < a then [z, b, a] else [z, a, b]
  | l => l
/-- A list that grows behind two rows. -/
def OutL (r0 r1 : Blk) (rest : List Blk) (L : List Int) (v : V) : Prop := (L = [] ∧ v = .d (.sl 0 false [])) ∨
  (L ≠ [] ∧ ∃ j cap tail, v = .rsl 1 (j + 2) 0 L.length cap ∧ L.length ≤ cap ∧ rest[j]? = some (.row (ofI L ++ tail)) ∧ tail.length + L.length = cap)
theorem ofI_len (L : List Int) : (ofI L).length = L.length := by simp [ofI]
theorem ofI_app (a b : List Int) : ofI (a ++ b) = ofI a ++ ofI b := by simp [ofI]
theorem app_out {r0 r1 : Blk} {rest : List Blk} {L : List Int} {v : V} {x : Int} {Q : V → St → Prop} (h : OutL r0 r1 rest L v) (hl : L.length ≤ 100)
    (hQ : ∀ rest' v', OutL r0 r1 rest' (L ++ [x]) v' → Q v' (s0 (r0 :: r1 :: rest') [] 0 0)) : appW 1 8 [.i .i64 0] (s0 (r0 :: r1 :: rest) [] 0 0) v (.d (.sl 1 true [.i .i64 x])) Q := by
  have hreps : ∀ k, ofDs (reps k [D.i .i64 0]) = ofI (List.replicate k 0) := fun k => by simp [reps, ofDs, ofI]
  rcases h with ⟨rfl, rfl⟩ | ⟨hne, j, cap, tail, rfl, hc, hr, ht⟩
  · refine ⟨1, [.d (.i .i64 x)], rfl, rfl, by omega, by omega, fun h => by omega, fun _ k => ?_⟩
    rw [s0_push, s0_hlen]
    exact hQ (rest ++ [.row ([.d (.i .i64 x)] ++ ofDs (reps k [D.i .i64 0]))]) (.rsl 1 (rest.length + 2) 0 1 (1 + k)) (.inr ⟨by simp, rest.length, 1 + k, ofI (List.replicate k 0), by simp, by simp, by simp [hreps, ofI], by simp [ofI]; omega⟩)
  · obtain ⟨hlt, hrr⟩ := List.getElem?_eq_some_iff.1 hr
    have hrow : (s0 (r0 :: r1 :: rest) [] 0 0).row (j + 2) = some (ofI L ++ tail) := by simp [hr]
    refine ⟨rfl, ofI L ++ tail, 1, [.d (.i .i64 x)], hrow, rfl, rfl, by simp [ofI_len]; omega, by omega, by omega, fun _ h => by omega, fun hfit _ => ?_, fun _ k => ?_⟩
    · refine ⟨s0 (r0 :: r1 :: rest.set j (.row (ofI (L ++ [x]) ++ tail.drop 1))) [] 0 0, ?_, ?_⟩
      · rw [s0_setBlk (by omega)]
        simp only [List.set_cons_succ, Option.some.injEq]
        congr 5
        simp only [lay, ofI_app, Nat.zero_add, Nat.mul_one]
        rw [List.take_append_of_le_length (by rw [ofI_len]; omega), List.take_of_length_le (by rw [ofI_len]; omega), List.drop_append, ofI_len, List.drop_of_length_le (by rw [ofI_len]; simp), List.nil_append, List.length_singleton, Nat.add_sub_cancel_left]
        simp [ofI]
      · exact hQ (rest.set j (.row (ofI (L ++ [x]) ++ tail.drop 1))) (.rsl 1 (j + 2) 0 (L.length + 1) cap) (.inr ⟨by simp, j, cap, tail.drop 1, by simp, by simp; omega, by simp [hlt], by simp; omega⟩)
    · rw [s0_push, s0_hlen]
      refine hQ (rest ++ [.row (((ofI L ++ tail).drop 0).take (L.length * 1) ++ [.d (.i .i64 x)] ++ ofDs (reps k [D.i .i64 0]))]) (.rsl 1 (rest.length + 2) 0 (L.length + 1) (L.length + 1 + k)) (.inr ⟨by simp, rest.length, L.length + 1 + k, ofI (List.replicate k 0), by simp, by simp, ?_, by simp [ofI]; omega⟩)
      simp only [List.getElem?_append_right (Nat.le_refl _), Nat.sub_self, List.getElem?_cons_zero, Option.some.injEq, Blk.row.injEq, hreps, List.drop_zero, Nat.mul_one]
      rw [List.take_append_of_le_length (by rw [ofI_len]; omega), List.take_of_length_le (by rw [ofI_len]; omega), ofI_app]
      rfl
theorem ofI_icl : ∀ l : List Int, ofI l = ofDs (icl l)
  | [] => rfl
  | x :: r => by
    have := ofI_icl r
    simp only [ofI, ofDs, icl] at this ⊢
    simp only [List.map_cons, List.flatten_cons, ic, List.cons_append, List.nil_append, this]
section
variable {pr : Prog} (hp : Sub regFns pr)
include hp
/-- Sorted and made of different ones: what the list is then. -/
theorem out_fin {r0 r1 : Blk} {rest : List Blk} {L : List Int} {v : V} (h : OutL r0 r1 rest L v) (h3 : (∃ a, L = [a]) ∨ (∃ a b, L = [a, b]) ∨ (∃ z a b, L = [z, a, b] ∧ z ≤ a ∧ z ≤ b) ∨ L = []) :
    ∃ st1 st2 w, den pr 92 [v] (s0 (r0 :: r1 :: rest) [] 0 0) = some (.tup [], st1) ∧ den pr 93 [v] st1 = some (w, st2) ∧ esc st2 0 0 w = some (isl (ddp (srt L))) := by
  have key : ∀ (bs : List Blk) (k cap : Nat) (l : List Int) (tail : List V), bs[k]? = some (.row (ofI l ++ tail)) → l ≠ [] → esc (s0 bs [] 0 0) 0 0 (.rsl 1 k 0 l.length cap) = some (isl l) := by
    intro bs k cap l tail hk hl
    have hpos : 0 < l.length := List.length_pos_iff.2 hl
    have hto : toDs (ofI l) = some (icl l) := by rw [ofI_icl, toDs_of]
    simp [cellsAt, hk, ofI_len, isl, hpos, hto, List.take_append_of_le_length, List.take_of_length_le]
  rcases h with ⟨rfl, rfl⟩ | ⟨hne, j, cap, tail, rfl, hc, hr, ht⟩
  · exact ⟨_, _, _, den_Sort hp (n := 0) (k := 0) rfl (by simp) (den_ins0 hp), den_cmp0 hp, by simp [srt, ddp, isl, icl]⟩
  have hk : (r0 :: r1 :: rest)[j + 2]? = some (.row (ofI L ++ tail)) := by simp [hr]
  rcases h3 with ⟨a, rfl⟩ | ⟨a, b, rfl⟩ | ⟨z, a, b, rfl, hza, hzb⟩ | rfl
  · exact ⟨_, _, _, den_Sort hp (n := 1) (k := 1) rfl (by simp) (den_ins1 hp (cap := cap) hk (by omega)), den_cmp1 hp, key _ _ cap _ _ hk (by simp)⟩
  · have hlt := (List.getElem?_eq_some_iff.1 hk).1
    have h1 := den_ins2 hp (ts := []) (tf := 0) (cap := cap) hk (Nat.zero_le _)
    have hs : ofI (if b < a then [b, a] else [a, b]) = ofI (srt [a, b]) := rfl
    rw [hs] at h1
    obtain ⟨c, d, hcd⟩ : ∃ c d, srt [a, b] = [c, d] := by
      rw [show srt [a, b] = if b < a then [b, a] else [a, b] from rfl]
      split <;> exact ⟨_, _, rfl⟩
    rw [hcd] at h1 ⊢
    obtain ⟨tail', h2⟩ := den_cmp2 hp (bs := (r0 :: r1 :: rest).set (j + 2) (.row (ofI [c, d] ++ tail))) (ts := []) (fl := 0) (tf := 0) (k := j + 2) (cap := cap) (tail := tail) (a := c) (b := d) (by rw [List.getElem?_set, if_pos rfl, if_pos hlt]) (Nat.zero_le _) (by simpa using hc)
    refine ⟨_, _, _, den_Sort hp (n := 2) (k := 2) rfl (by simp) h1, h2, key _ _ cap _ tail' ?_ ?_⟩
    · rw [List.getElem?_set, if_pos rfl, if_pos (by simpa using hlt)]
    · rw [show ddp [c, d] = if c = d then [c] else [c, d] from rfl]
      split <;> simp
  · have hlt := (List.getElem?_eq_some_iff.1 hk).1
    have h1 := den_ins3 hp (ts := []) (tf := 0) (cap := cap) hk (Nat.zero_le _) hza hzb
    have hs : ofI (if b < a then [z, b, a] else [z, a, b]) = ofI (srt [z, a, b]) := rfl
    rw [hs] at h1
    obtain ⟨c, d, hcd⟩ : ∃ c d, srt [z, a, b] = [z, c, d] := by
      rw [show srt [z, a, b] = if b < a then [z, b, a] else [z, a, b] from rfl]
      split <;> exact ⟨_, _, rfl⟩
    rw [hcd] at h1 ⊢
    obtain ⟨tail', h2⟩ := den_cmp3 hp (bs := (r0 :: r1 :: rest).set (j + 2) (.row (ofI [z, c, d] ++ tail))) (ts := []) (fl := 0) (tf := 0) (k := j + 2) (cap := cap) (tail := tail) (z := z) (a := c) (b := d) (by rw [List.getElem?_set, if_pos rfl, if_pos hlt]) (Nat.zero_le _) (by simpa using hc)
    refine ⟨_, _, _, den_Sort hp (n := 3) (k := 2) rfl (by simp) h1, h2, key _ _ cap _ tail' ?_ ?_⟩
    · rw [List.getElem?_set, if_pos rfl, if_pos (by simpa using hlt)]
    · rw [show ddp [z, c, d] = if z = c then (if c = d then [z] else [z, d]) else if c = d then [z, c] else [z, c, d] from rfl]
      split <;> split <;> simp
  · exact absurd rfl hne
end
end Go.Sh
